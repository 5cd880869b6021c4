/-
 Several texts in one,in their build order: RefB,RefC,RefD,RefT.
-/
import Derived.Lib.OthersKept
import Derived.Deep.DeepMust
import Derived.Test.YtlfpdpbbkjnapaaGreatDoorPRefA
import Derived.Test.YtlfpdpbbkjnapaaGreatDoorP0a
/- -/
namespace Go.Proofs.YtlfpdpbbkjnapaaGreatDoor
set_option maxRecDepth 100000
set_option maxHeartbeats 40000000
section
open Go.RowKit
end
section
open Go.RowKit
theorem own_nf_len {w : World} {base : Nat} {e : TypeId} {A : Option Addr} {n c : Nat} {l : List (Int × Int)} (h : Own w base e 2 A n c (l.map encR)) (hl : NF l) : n≤557056:=by
 have:=h.len;simp at this;have:=hl.len;omega
end
section
open Go.RowKit
end
section
open Go.RowKit
theorem Own.iterAt {w : World} {base : Nat} {e : TypeId} {s : Nat} {A : Option Addr} {n c : Nat} {cs : List (List Value)} (h : Own w base e s A n c cs) {k : Nat} (hk : k < base) (t : ByteArray) (p : Nat) : Own (w.iterAt k t p) base e s A n c cs :=
 h.keep fun a ha=>Lib.iterAt_other w k a.block t p (by have:=(h.lt a ha).1;omega)
theorem iter_new (w : World) (s : ByteArray) (p : Nat) : (w.iter s p).heap[w.heap.size]? = some (.stringIter s p):=World.iter_heap w s p
theorem below_iter {B : Nat} {a w : World} (h : Below B a w) (hB : B≤w.heap.size) (s : ByteArray) (p : Nat) : Below B a (w.iter s p):=h.alloc hB _
theorem iterPos_of {w : World} {k p : Nat} {s : ByteArray} (h : w.heap[k]? = some (.stringIter s p)) : w.iterPos k = p:=by unfold World.iterPos;rw [h]
end
end Go.Proofs.YtlfpdpbbkjnapaaGreatDoor
