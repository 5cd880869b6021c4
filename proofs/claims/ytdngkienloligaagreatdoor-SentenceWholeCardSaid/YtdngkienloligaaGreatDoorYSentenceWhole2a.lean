/-
  Several texts in one, in their build order: Go, Gp, Gi, Pie.
-/
import Derived.Laws.EntriesVeiled
import Derived.Test.YtdngkienloligaaGreatDoorYSentenceWholeGf
import Derived.Test.YtdngkienloligaaGreatDoorYSentenceWhole1a
import Derived.Test.YtdngkienloligaaGreatDoorYSentenceWhole0a
/- -/
namespace Go.Proofs.YtdngkienloligaaGreatDoor
open Go.RowKit Go.Shelf
attribute [local go_sem] Oper.semAt_some
end Go.Proofs.YtdngkienloligaaGreatDoor

/- -/
namespace Go.Proofs.YtdngkienloligaaGreatDoor
open Go.RowKit Go.Shelf
attribute [local go_sem] Oper.semAt_some
end Go.Proofs.YtdngkienloligaaGreatDoor

/- -/
namespace Go.Proofs.YtdngkienloligaaGreatDoor
open Go.RowKit
end Go.Proofs.YtdngkienloligaaGreatDoor

/- -/
namespace Go.Proofs.YtdngkienloligaaGreatDoor
open Go.RowKit Go.Shelf
theorem KT.setX {t : TypeId} {X : Nat → Prop} {A B : World} (h : KT t X A B) {b : Nat} (hx : X b) (i : Nat) (u : Value) : KT t X A (B.setCell ⟨b, i, none⟩ u) :=
  ⟨by simpa [World.setCell] using h.1, fun k cur fz hk0 hk => (Below.heap_setCell B ⟨b, i, none⟩ u k (fun e => by subst e; exact hk0 hx)).trans (h.2 k cur fz hk0 hk)⟩
theorem others_below {A B : World} (h : Below A.heap.size A B) : KeepsOthers A B := ⟨h.size, fun j _ hj _ => (h.block j (Array.getElem?_eq_some_iff.1 hj).1).trans hj⟩
structure PcF (w : World) (stop : Int) (A : Option Addr) (c : Nat) (L : List Nat) (K g5 g8 be bb : Nat) (s : ByteArray) (fb : Value) (V : World) : Prop where
  b3 : Blk V w.heap.size 3 #[.int .i64 stop]
  b4 : Blk V (w.heap.size + 1) 4 #[.bool false]
  b5 : Blk V g5 40 #[.slice A L.length c]
  b6 : Blk V (g5 + 1) 3 #[.int .i64 (K : Nat)]
  b8 : Blk V g8 29 #[fb]
  rd : Rd V 1 A (L.map encN)
  ce : V.cell? ⟨be, 0, none⟩ = some (.string s)
  cb : V.cell? ⟨bb, 0, none⟩ = some (.string s)
  hb : Below w.heap.size w V
theorem PcF.below {w V V' : World} {stop : Int} {A : Option Addr} {c : Nat} {L : List Nat} {K g5 g8 be bb : Nat} {s : ByteArray} {fb : Value} (h : PcF w stop A c L K g5 g8 be bb s fb V) (hb : Below V.heap.size V V') : PcF w stop A c L K g5 g8 be bb s fb V' :=
  ⟨h.b3.below hb, h.b4.below hb, h.b5.below hb, h.b6.below hb, h.b8.below hb, h.rd.below hb, cell_keep h.ce hb, cell_keep h.cb hb, below_two h.hb hb⟩
theorem prefix_nextP {α : Type} {R pre : List α} {x : α} (h : pre ++ [x] <+: R) : R[pre.length]? = some x := by
  obtain ⟨r, rfl⟩ := h
  simp
theorem seqP_nil (fn : Fn) (first captured : Array Value) (W : World) : (binOp .eql 29 (.func fn first captured) .nilFunc).run Tryz.prog W = .ok (.bool false) W := by kernel_rfl
variable {F : Fence} {n : Nat} {P : Program}
end Go.Proofs.YtdngkienloligaaGreatDoor

