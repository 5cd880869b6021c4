/- -/
import Derived.Test.YtlfpdpbbkjnapaaGreatDoorYPlacesTellsPlcF
namespace Go.Proofs.YtlfpdpbbkjnapaaGreatDoor
set_option maxRecDepth 100000
set_option maxHeartbeats 40000000
section
open Go.RowKit
theorem qTells_any (s : ByteArray) (at_ n r c : Int) (w : World) (hE : Env w) (hs : s.size≤140737488355328) (hx : at_≤9223372036854775807) :
  Calls Tryz.prog 5 #[.string s,.int .i64 at_,.int .i64 n,.agg #[.int .i64 r,.int .i64 c]] w fun e w'=>e = .returned (.bool true)∧Below w.heap.size w w':=by
 have hb0 : Below w.heap.size w (w.alloc (.cells #[.int .i64 r,.int .i64 c] 32)):=(Below.refl _ _).alloc (Nat.le_refl _) _
 have b7:=Blk.new w 32 #[.int .i64 r,.int .i64 c]
 have HL:=Lib.hid (fun W (h : Env W)=>qlive17_any W h)
 by_cases h1 : 100 < s.size
 ·have g1 : (100 : Int) < (s.size : Int):=by omega
  clear hs h1
  go_enter Tryz.func5,Tryz.ntmps5
  go_wp2_with fail
  generalize w.alloc (.cells #[.int .i64 r,.int .i64 c] 32) = w0 at hb0 b7 ⊢
  go_wp2_with fail
  refine (HL.out w0 (hE.below hb0)).mono ?_
  rintro e w1 ⟨rfl,hb⟩
  go_wp2
  go_ret
  exact ⟨rfl,below_two hb0 hb⟩
 have g1 : ¬ (100 : Int) < (s.size : Int):=by omega
 have HN:=Lib.hid (fun W (h : Env W)=>qNew_any s W h (by omega))
 have HT:=Lib.hid (fun p W (h : IdxAt W p s)=>qtells_any p s at_ n r c W h (by omega) hx)
 have HE:=Lib.hid hE
 clear hs h1
 go_enter Tryz.func5,Tryz.ntmps5
 go_wp2_with fail
 generalize w.alloc (.cells #[.int .i64 r,.int .i64 c] 32) = w0 at hb0 b7 ⊢
 have c0:=b7.cell 0
 have c1:=b7.cell 1
 simp only [zG,zH,zI] at c0 c1
 clear b7
 go_wp2_with fail
 go_region_held3 (fun U=>(U.cell? ⟨w.heap.size,0,none⟩ = some (.int .i64 r)∧U.cell? ⟨w.heap.size,1,none⟩ = some (.int .i64 c))∧Below w0.heap.size w0 U)
  (first | exact ⟨⟨kc0,kc1⟩,Bc⟩ | exact ⟨⟨kb0,kb1⟩,Bb⟩ | exact ⟨⟨ka0,ka1⟩,Ba⟩ | exact ⟨⟨c0,c1⟩,Below.refl _ _⟩ | exact ⟨⟨c0,c1⟩,(Below.refl _ _).drew⟩)
  (first
   | (go_at_call 14;go_split_ands;refine (HN.out _ (hE.below (below_two hb0 (by assumption)))).mono ?_;rintro e wa ⟨p,rfl,hI,hba⟩;have Ba:=below_two (by assumption) hba;have ka0:=cell_keep c0 Ba;have ka1:=cell_keep c1 Ba;have HI:=Lib.hid hI)
   | (go_at_call 24;go_split_ands;refine (HT.out _ _ HI.out).mono ?_;rintro e wb ⟨rfl,hbb⟩;have Bb:=below_two Ba hbb;have kb0:=cell_keep c0 Bb;have kb1:=cell_keep c1 Bb)
   | (go_at_call 13;go_split_ands;refine (HL.out _ (hE.below (below_two hb0 Bb))).mono ?_;rintro e wc ⟨rfl,hbc⟩;have Bc:=below_two Bb hbc;have kc0:=cell_keep c0 Bc;have kc1:=cell_keep c1 Bc))
 have hBf:=below_two hb0 Bc
 clear ka0 ka1 kb0 kb1 kc0 kc1 c0 c1 Ba Bb Bc
 go_wp2
 go_ret
 exact ⟨rfl,hBf⟩
end
end Go.Proofs.YtlfpdpbbkjnapaaGreatDoor
