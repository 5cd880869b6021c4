/-
 Several texts in one,in their build order: Gd,Gh,Gf,Go,PlcA,PlcA2,PlcA3,PlcB,PlcC,PlcK1,PlcK2,PlcK3,PlcL,PlcK,PlcQ,PlcU.
-/
import Derived.Deep.CutRange
import Derived.Deep.RegionHeld3
import Derived.Deep.LoopGhost
import Derived.Deep.DeepCutAuto
import Derived.Test.YtlfpdpbbkjnapaaGreatDoorRGb
import Derived.Test.YtlfpdpbbkjnapaaGreatDoorR0b
import Derived.Test.YtlfpdpbbkjnapaaGreatDoorRShelf
import Derived.Test.YtlfpdpbbkjnapaaGreatDoorR1a
import Derived.Test.YtlfpdpbbkjnapaaGreatDoorRRdr
import Derived.Test.YtlfpdpbbkjnapaaGreatDoorR0a
import Derived.Test.YtlfpdpbbkjnapaaGreatDoorR2a
/- -/
namespace Go.Proofs.YtlfpdpbbkjnapaaGreatDoor
set_option maxRecDepth 100000
set_option maxHeartbeats 40000000
section
open Go.RowKit
end
section
open Go.RowKit
theorem zPlaces_same (A B : Option Addr) (n c e : Nat) (l : List Nat) (w : World) (hA : Rd w 1 A (l.map encN)) (hB : Rd w 1 B (l.map encN)) (hl : l.length = n) (hn : n≤4000000) :
  Calls Tryz.prog 40 #[.slice A n c,.slice B n e] w fun e w'=>e = .returned (.bool true)∧Below w.heap.size w w':=by
 have Hl:=Lib.hid hl
 clear hl
 go_enter Tryz.func40,Tryz.ntmps40
 go_wp2
 go_loopw [5] (fun v wr=>∃ i k : Nat,v = .int .i64 i∧i≤n∧wr = w.drewN k) (fun v _=>n - (intOf v).toNat)
 case atStart=>exact ⟨0,0,rfl,by omega,rfl⟩
 case round =>
  obtain ⟨i,k,rfl,hi,rfl⟩:=hrel
  by_cases hlt : i < n
  ·obtain ⟨x,Hx⟩ : ∃ x,Hid (l[i]? = some x):=⟨_,Lib.hid (List.getElem?_eq_getElem (by have:=Hl.out;omega))⟩
   obtain ⟨b,off,rfl,h1⟩:=hA.atP' Hx.out
   obtain ⟨b',off',rfl,k1⟩:=hB.atP' Hx.out
   go_wp2_with fail
   go_region
   go_wp2
   go_roundw
   case rel=>exact ⟨i+1,_,by go_num,by omega,by first | rfl | exact World.drewN_drewN _ _ _⟩
   case measure=>simp [intOf];omega
  ·go_wp2
   go_ret
   exact ⟨rfl,below_refl_drewN w k⟩
end
section
open Go.RowKit Go.Shelf
attribute [local go_sem] Oper.semAt_some
end
section
open Go.RowKit Go.Shelf
attribute [local go_sem] Oper.semAt_some
end
section
open Go.RowKit
end
section
open Go.RowKit
end
section
open Go.RowKit
end
section
open Go.RowKit Go.Shelf
attribute [local go_sem] Oper.semAt_some
section
variable {t : TypeId} {ab : Nat} {A B C : World}
end
end
section
open Go.RowKit Go.Shelf
attribute [local go_sem] Oper.semAt_some
end
section
open Go.RowKit
end
section
open Go.RowKit Go.Shelf
attribute [local go_sem] Oper.semAt_some
end
section
open Go.RowKit
end
section
open Go.RowKit
theorem rd_grown {w w' : World} {s : Nat} {A : Option Addr} {cs : List (List Value)} {g : Nat} (h : Rd w s A cs) (hg : w.grownBy w' (some g)) (hA : ∀ a,A = some a→a.block ≠ g) : Rd w' s A cs :=
 h.keep fun b off i u ha hc=>(World.cell?_of_block (hg.block b (cell_lt (p:=⟨b,i,none⟩) hc) (fun e=>hA _ ha (by injection e)))).trans hc
end
section
open Go.RowKit Go.Shelf
attribute [local go_sem] Oper.semAt_some
end
section
open Go.RowKit
end
section
open Go.RowKit
def chF (s : ByteArray) (f : Int) : Nat:=(min (max f 0) (s.size : Int)).toNat
def chT (s : ByteArray) (f t : Int) : Nat:=max (min (max t 0) (s.size : Int)).toNat (chF s f)
def chP (s : ByteArray) (f t : Int) (x : ByteArray) : ByteArray:=s.extract 0 (chF s f)++x++s.extract (chT s f t) s.size
theorem chF_le (s : ByteArray) (f : Int) : chF s f≤s.size:=by unfold chF;omega
theorem chT_le (s : ByteArray) (f t : Int) : chF s f≤chT s f t∧chT s f t≤s.size:=by
 have:=chF_le s f
 unfold chT
 omega
theorem chF_eq (s : ByteArray) (f : Int) : min (max f 0) (s.size : Int) = (chF s f : Nat):=by unfold chF;omega
theorem chT_eq (s : ByteArray) (f t : Int) : max (min (max t 0) (s.size : Int)) (chF s f : Nat) = (chT s f t : Nat):=by unfold chT;omega
theorem chP_size (s x : ByteArray) (f t : Int) : (chP s f t x).size≤s.size+x.size:=by
 have h1:=chF_le s f
 obtain ⟨h2,h3⟩:=chT_le s f t
 unfold chP
 rw [ByteArray.size_append,ByteArray.size_append,ByteArray.size_extract,ByteArray.size_extract]
 omega
end
end Go.Proofs.YtlfpdpbbkjnapaaGreatDoor
