/-
 Several texts in one,in their build order: MRunT,MLi,PostA,AgN.
-/
import Derived.RangeFuncNested
import Derived.RangeFuncBound
import Derived.RangeFuncCalls
import Derived.RangeFuncLeaves
import Derived.Shelf.Abstract
import Derived.Shelf.RegionOpen
import Derived.OwnWalkIn
import Derived.TacticsInMore
import Derived.LoopNIn
import Derived.LoopIn
import Derived.Deep.Slices
import Derived.Test.YtlfpdpbbkjnapaaGreatDoorR2a
import Derived.Test.YtlfpdpbbkjnapaaGreatDoorR0a
import Derived.Test.YtlfpdpbbkjnapaaGreatDoorR1a
import Derived.Test.YtlfpdpbbkjnapaaGreatDoorR0b
import Derived.Test.YtlfpdpbbkjnapaaGreatDoorR8a
/- -/
namespace Go.Proofs.YtlfpdpbbkjnapaaGreatDoor
set_option maxRecDepth 100000
set_option maxHeartbeats 40000000
section
open Go.RowKit Go.Shelf
attribute [local go_sem] Oper.semAt_some
section
variable {s : ByteArray} {set : List (Int × Int)} {f p : Nat} {cur : Option Nat} {pre : List (Nat × Nat)} {R W : Nat}
end
theorem not_row {w : World} {row : Option Nat} {b : Nat} {o : Obj} (hb : w.heap[b]? = some o) (hc : o.isCells = true) (hr : ∀ r,row = some r→∃ o : Obj,w.heap[r]? = some o∧o.isCells = false) : some b ≠ row:=by
 rintro rfl
 obtain ⟨o',h1,h2⟩:=hr b rfl
 rw [hb] at h1;cases h1;rw [hc] at h2;cases h2
theorem Blk.kept {w w' : World} {row : Option Nat} {g : Nat} {t : TypeId} {cs : Array Value} (h : Blk w g t cs) (hg : w.grownBy w' row) (hr : ∀ r,row = some r→∃ o : Obj,w.heap[r]? = some o∧o.isCells = false) : Blk w' g t cs:=h.grown hg (not_row h rfl hr)
end
section
open Go.RowKit
/-- None of the first j. -/
def NoneTo (p : Int → Bool) (l : List Int) (j : Nat) : Prop := ∀ k x, k < j → l[k]? = some x → p x = false
theorem noneTo_first (p : Int→Bool) (l : List Int) : NoneTo p l 0:=fun k x hk=>by omega
theorem noneTo_next {p : Int→Bool} {l : List Int} {j : Nat} {x : Int} (h : NoneTo p l j) (hx : l[j]? = some x) (hp : p x = false) : NoneTo p l (j+1):=fun k y hk hy=>by
 rcases (by omega : k < j∨k = j) with h1 | rfl
 ·exact h k y h1 hy
 ·rw [hx] at hy;injection hy with hy;rw [← hy];exact hp
theorem noneTo_end {p : Int→Bool} {l : List Int} {j : Nat} (h : NoneTo p l j) (hj : ¬ j < l.length) : l.any p = false:=by
 rw [List.any_eq_false]
 intro x hx
 obtain ⟨k,hk,e⟩:=List.getElem_of_mem hx
 rw [h k x (by omega) (by rw [List.getElem?_eq_getElem hk,e])]
 simp
theorem any_here {p : Int→Bool} {l : List Int} {j : Nat} {x : Int} (hx : l[j]? = some x) (hp : p x = true) : l.any p = true:=List.any_eq_true.2 ⟨x,List.mem_of_getElem? hx,hp⟩
theorem ge_nat (j : Nat) : decide (0≤(j : Int)) = true:=decide_eq_true (by omega)
theorem lIndexI_any (A : Option Addr) (n c : Nat) (l : List Int) (x : Int) (w : World) (hA : Rd w 1 A (l.map encZ)) (hl : l.length = n) (hn : n≤4000000) :
  Calls Tryz.prog 95 #[.slice A n c,.int .i64 x] w fun e w'=>∃ v : Int,e = .returned (.int .i64 v)∧decide (0≤v) = l.any (x == ·)∧w = w':=by
 have Hl:=Lib.hid hl
 clear hl
 go_enter Tryz.func95,Tryz.ntmps95
 go_wp2
 go_loopw [8] (fun v wr=>∃ j : Nat,v = .int .i64 j∧j≤n∧Hid (NoneTo (x == ·) l j)∧wr = w) (fun v _=>n - (intOf v).toNat)
 case atStart=>exact ⟨0,rfl,by omega,Lib.hid (noneTo_first _ l),rfl⟩
 case round =>
  obtain ⟨j,rfl,hj,HN,rfl⟩:=hrel
  by_cases hlt : j < n
  ·obtain ⟨y,Hy⟩ : ∃ y,Hid (l[j]? = some y):=⟨_,Lib.hid (List.getElem?_eq_getElem (by have:=Hl.out;omega))⟩
   obtain ⟨b,off,rfl,hc⟩:=hA.atZ Hy.out
   obtain ⟨q,Hq⟩ : ∃ q,Hid ((x == ·) y = q):=⟨_,Lib.hid rfl⟩
   cases q with
   | true =>
    have HV:=Lib.hid (any_here Hy.out Hq.out)
    have he:=Hq.out
    go_wp2
    go_ret
    exact ⟨j,rfl,by rw [HV.out];exact ge_nat j,rfl⟩
   | false =>
    have HN':=Lib.hid (noneTo_next HN.out Hy.out Hq.out)
    have he:=Hq.out
    go_wp2
    go_roundw
    case rel=>exact ⟨j+1,by go_num,by omega,HN',trivial⟩
    case measure=>simp [intOf];omega
  ·have HV:=Lib.hid (noneTo_end HN.out (by rw [Hl.out];exact hlt))
   go_wp2
   go_ret
   exact ⟨-1,rfl,by rw [HV.out];rfl,rfl⟩
theorem lContains_any (A : Option Addr) (n c : Nat) (l : List Int) (x : Int) (w : World) (hA : Rd w 1 A (l.map encZ)) (hl : l.length = n) (hn : n≤4000000) :
  Calls Tryz.prog 70 #[.slice A n c,.int .i64 x] w fun e w'=>e = .returned (.bool (l.any (x == ·)))∧w = w':=by
 have HI:=Lib.hid (lIndexI_any A n c l x w hA hl hn)
 clear hA hl
 go_enter Tryz.func70,Tryz.ntmps70
 go_wp2_with fail
 refine HI.out.mono ?_
 rintro e w1 ⟨v,rfl,hv,rfl⟩
 have HV:=Lib.hid hv
 clear hv HI
 go_wp2
 go_ret
 exact ⟨by rw [← HV.out];rfl,rfl⟩
end
section
open Go.ChangeShapes Go.WideShapes Go.ChangeAt Go.RowKit
theorem cellsI64 : Tryz.prog.cellsOf 3 = 1:=by kernel_rfl
theorem cellsChg : Tryz.prog.cellsOf 56 = 2:=by kernel_rfl
theorem cellsEds : Tryz.prog.cellsOf 54 = 1:=by kernel_rfl
section
variable {H : Type} {enc : TypeId × Value→H} {W : World} {r : Reach} {b0 : Nat} {v : Value} {d : DataW H} {p : List MemPlace}
theorem open_change (hv : Value.okWide Tryz.prog W r b0 56 v) (hd : DataW.Trod enc Tryz.prog W 0 (fun _=>true) true 56 v d p) :
  ∃ (a : Int) (A : Option Addr) (m c : Nat),v = .agg #[.int .i64 a,.slice A m c]:=by
 unfold Value.okWide at hv
 rw [Tryz.underlying56] at hv
 obtain ⟨⟨cs⟩,rfl,hz,_⟩:=hv
 obtain ⟨fuel,hf⟩:=hd
 obtain ⟨y0,y1,n,_,hl,h0,h1⟩:=trod_struct2 Tryz.underlying56 hf
 rw [cellsChg] at hz
 match cs,hz with
 | [c0,c1],_ =>
  obtain ⟨a,e0,_,w0⟩:=DataW.trod_int Tryz.underlying3 h0
  simp [Value.cells,cellsI64] at e0
  subst e0
  rcases DataW.trod_slice Tryz.underlying54 h1 with ⟨e1,_⟩ | ⟨A,m,c,_,_,_,_,e1,_⟩
  ·simp [Value.cells,cellsEds] at e1
   subst e1
   exact ⟨a,none,0,0,rfl⟩
  ·simp [Value.cells,cellsEds] at e1
   subst e1
   exact ⟨a,some A,m,c,rfl⟩
end
end
section
open Go.RowKit Go.Shelf
attribute [local go_sem] Oper.semAt_some
theorem agText_nil (w : World) : Calls Tryz.prog 36 #[.pointer none] w fun e w'=>e = .returned (.string ⟨#[]⟩)∧w = w':=by
 go_enter Tryz.func36,Tryz.ntmps36
 go_wp2
 go_ret
 exact ⟨rfl,rfl⟩
theorem agBounds_nil (w : World) : Calls Tryz.prog 34 #[.pointer none] w fun e w'=>e = .returned (.slice none 0 0)∧w = w':=by
 go_enter Tryz.func34,Tryz.ntmps34
 go_wp2
 go_ret
 exact ⟨rfl,rfl⟩
theorem agCopy_nil (w : World) : Calls Tryz.prog 39 #[.pointer none] w fun e w'=>e = .returned (.pointer none)∧w = w':=by
 go_enter Tryz.func39,Tryz.ntmps39
 go_wp2
 go_ret
 exact ⟨rfl,rfl⟩
theorem agCount_nil (w : World) : Calls Tryz.prog 43 #[.pointer none] w fun e w'=>e = .returned (.int .i64 0)∧w = w':=by
 have H:=Lib.hid (agBounds_nil w)
 go_enter Tryz.func43,Tryz.ntmps43
 go_wp2_with fail
 refine H.out.mono ?_
 rintro e w1 ⟨rfl,rfl⟩
 go_wp2
 go_ret
 exact ⟨rfl,rfl⟩
theorem agIs_nil (x : Int) (w : World) : Calls Tryz.prog 37 #[.pointer none,.int .i64 x] w fun e w'=>e = .returned (.bool false)∧w = w':=by
 have H:=Lib.hid (agBounds_nil w)
 have HC:=Lib.hid (lContains_any none 0 0 [] x w (Rd.nil_ _ _ _) rfl (by omega))
 go_enter Tryz.func37,Tryz.ntmps37
 go_wp2_with fail
 refine H.out.mono ?_
 rintro e w1 ⟨rfl,rfl⟩
 go_wp2_with fail
 refine HC.out.mono ?_
 rintro e w1 ⟨rfl,rfl⟩
 go_wp2
 go_ret
 exact ⟨rfl,rfl⟩
theorem agAt_nil (x : Int) (w : World) : Calls Tryz.prog 42 #[.pointer none,.int .i64 x] w fun e w'=>e = .returned (.tuple #[.int .i64 0,.int .i64 0,.bool false])∧w = w':=by
 have H:=Lib.hid (agCount_nil w)
 by_cases hx : x < 0
 ·go_enter Tryz.func42,Tryz.ntmps42
  go_wp2
  go_ret3
  exact ⟨rfl,rfl⟩
 ·have hx2 : x ≥ 0:=by omega
  go_enter Tryz.func42,Tryz.ntmps42
  go_wp2_with fail
  refine H.out.mono ?_
  rintro e w1 ⟨rfl,rfl⟩
  go_wp2
  go_ret3
  exact ⟨rfl,rfl⟩
theorem agNext_nil (x : Int) (w : World) : Calls Tryz.prog 44 #[.pointer none,.int .i64 x] w fun e w'=>e = .returned (.int .i64 0)∧w = w':=by
 have H:=Lib.hid (agBounds_nil w)
 have HT:=Lib.hid (agText_nil w)
 go_enter Tryz.func44,Tryz.ntmps44
 go_wp2_with fail
 refine H.out.mono ?_
 rintro e w1 ⟨rfl,rfl⟩
 go_wp2_with fail
 go_loopw [10] (fun v wr=>v = .int .i64 0∧wr = w) (fun _ _=>0)
 case atStart=>exact ⟨rfl,rfl⟩
 case round =>
  obtain ⟨rfl,rfl⟩:=hrel
  go_wp2_with fail
  refine HT.out.mono ?_
  rintro e w1 ⟨rfl,rfl⟩
  go_wp2
  go_ret
  exact ⟨rfl,rfl⟩
theorem agPrev_nil (x : Int) (w : World) : Calls Tryz.prog 45 #[.pointer none,.int .i64 x] w fun e w'=>e = .returned (.int .i64 0)∧w = w':=by
 have H:=Lib.hid (agBounds_nil w)
 go_enter Tryz.func45,Tryz.ntmps45
 go_wp2_with fail
 refine H.out.mono ?_
 rintro e w1 ⟨rfl,rfl⟩
 go_wp2_with fail
 go_loopw [5,11] (fun u v wr=>u = .int .i64 0∧v = .int .i64 0∧wr = w) (fun _ _ _=>0)
 case atStart=>exact ⟨rfl,rfl,rfl⟩
 case round =>
  obtain ⟨rfl,rfl,rfl⟩:=hrel
  go_wp2
  go_ret
  exact ⟨rfl,rfl⟩
theorem agApply_nil (n : Int) (A : Option Addr) (m c : Nat) (w : World) : Calls Tryz.prog 41 #[.pointer none,.agg #[.int .i64 n,.slice A m c]] w fun e w'=>e = .returned (.tuple #[.slice none 0 0,.int .i64 0])∧Below w.heap.size w w':=by
 have hb : Below w.heap.size w ((w.alloc (.cells #[.pointer none] 60)).alloc (.cells #[.int .i64 n,.slice A m c] 56)):=((Below.refl _ _).alloc (Nat.le_refl _) _).alloc (by simp) _
 have c2 : ((w.alloc (.cells #[.pointer none] 60)).alloc (.cells #[.int .i64 n,.slice A m c] 56)).cell? ⟨w.heap.size,0,none⟩ = some (.pointer none):=((Blk.new w 60 #[.pointer none]).alloc (.cells #[.int .i64 n,.slice A m c] 56)).cell 0
 go_enter Tryz.func41,Tryz.ntmps41
 go_wp2_with fail
 generalize ((w.alloc (.cells #[.pointer none] 60)).alloc (.cells #[.int .i64 n,.slice A m c] 56)) = W at hb c2 ⊢
 go_wp2
 go_ret2
 exact ⟨rfl,hb⟩
theorem agEdit_nil (f t : Int) (x : ByteArray) (w : World) : Calls Tryz.prog 35 #[.pointer none,.int .i64 f,.int .i64 t,.string x] w fun e w'=>e = .returned (.agg #[.int .i64 0,.int .i64 0,.int .i64 0])∧Below w.heap.size w w':=by
 have hb : Below w.heap.size w ((w.alloc (.cells #[.int .i64 t] 3)).alloc (.cells #[.int .i64 0,.int .i64 0,.int .i64 0] 68)):=((Below.refl _ _).alloc (Nat.le_refl _) _).alloc (by simp) _
 have b8 : Blk ((w.alloc (.cells #[.int .i64 t] 3)).alloc (.cells #[.int .i64 0,.int .i64 0,.int .i64 0] 68)) (w.heap.size+1) 68 #[.int .i64 0,.int .i64 0,.int .i64 0]:=by
  have:=Blk.new (w.alloc (.cells #[.int .i64 t] 3)) 68 #[.int .i64 0,.int .i64 0,.int .i64 0]
  simpa using this
 go_enter Tryz.func35,Tryz.ntmps35
 go_wp2_with fail
 generalize ((w.alloc (.cells #[.int .i64 t] 3)).alloc (.cells #[.int .i64 0,.int .i64 0,.int .i64 0] 68)) = W at hb b8 ⊢
 have r0:=b8.cell 0
 have r1:=b8.cell 1
 have r2:=b8.cell 2
 have f0:=b8.frozen 0
 have f1:=b8.frozen 1
 have f2:=b8.frozen 2
 simp only [zG,zH,zI] at r0 r1 r2
 go_step3
 go_wp2_with fail
 have B:=((b8.set_ 0 (.int .i64 0)).set_ 1 (.int .i64 0)).set_ 2 (.int .i64 0)
 simp only [zD,zE,zF] at B
 refine ⟨rfl,_,res_agEdit _ (w.heap.size+1) _ rfl B,rfl,?_⟩
 exact ((hb.setCell (p:=⟨w.heap.size+1,0,none⟩) (by simp only;omega) _).setCell (p:=⟨w.heap.size+1,1,none⟩) (by simp only;omega) _).setCell (p:=⟨w.heap.size+1,2,none⟩) (by simp only;omega) _
theorem agEach_nil (w : World) : Calls Tryz.prog 38 #[.pointer none] w fun e w'=>e = .returned (.func (.func 71) #[] #[.pointer (some ⟨w.heap.size+1,0,none⟩),.pointer (some ⟨w.heap.size,0,none⟩)])∧w'.cell? ⟨w.heap.size+1,0,none⟩ = some (.slice none 0 0)∧Below w.heap.size w w':=by
 have hmf : ∀ (fn : Fn) (first cap : Array Value) (w : World),(Instr.makeFunc fn first cap).run Tryz.prog w = .ok (.func fn first cap) w:=fun _ _ _ _=>rfl
 have HT:=Lib.hid (agText_nil w)
 have HB:=Lib.hid (agBounds_nil w)
 go_enter Tryz.func38,Tryz.ntmps38
 go_wp2_with fail
 refine HT.out.mono ?_
 rintro e w1 ⟨rfl,rfl⟩
 go_wp2_with fail
 refine HB.out.mono ?_
 rintro e w1 ⟨rfl,rfl⟩
 go_wp2
 go_ret
 exact ⟨rfl,by simp,((Below.refl _ _).alloc (Nat.le_refl _) _).alloc (by simp) _⟩
theorem agEach1_nil (n : Nat) (w : World) (b1 b2 : Nat) (h : w.cell? ⟨b1,0,none⟩ = some (.slice none 0 0)) :
  SeqStopsK Fence.wide n Tryz.prog 71 #[.pointer (some ⟨b1,0,none⟩),.pointer (some ⟨b2,0,none⟩)] (fun (_ : Unit)=>#[.int .i64 0,.string ⟨#[]⟩]) (fun _ _=>True) (fun ys=>ys = []) (fun _=>False) 0 w:=by
 intro l J Jx W hW hJ _ hY h0
 have hc1 : W.cell? ⟨b1,0,none⟩ = some (.slice none 0 0):=cell_keep h hW
 clear h hY
 refine callsIn_of_wp Tryz.func71 rfl trivial ?_ rfl
 simp only [Tryz.ntmps71,List.size_toArray,List.length_cons,List.length_nil,Nat.reduceAdd,Nat.reduceSub,Array.replicate_succ,Array.replicate_zero,List.push_toArray,List.append_toArray,List.nil_append,List.cons_append]
 gi_wp2_with fail
 gi_loopw [4] (fun v wr=>v = .int .i64 1∧wr = W) (fun _ _=>0)
 case atStart=>exact ⟨rfl,rfl⟩
 case round =>
  obtain ⟨rfl,rfl⟩:=hrel
  gi_wp2
  go_end0
  first | exact ⟨⟨_,rfl⟩,.inl ⟨_,rfl,h0⟩⟩ | exact ⟨⟨_,rfl⟩,.inl h0⟩
theorem agNumber_nil (x : Int) (w : World) : Calls Tryz.prog 46 #[.pointer none,.int .i64 x] w fun e w'=>e = .returned (.int .i64 0)∧Below w.heap.size w w':=by
 have hb : Below w.heap.size w ((w.alloc (.cells #[.int .i64 x] 3)).alloc (.cells #[.int .i64 0] 3)):=((Below.refl _ _).alloc (Nat.le_refl _) _).alloc (by simp) _
 have b5 : Blk ((w.alloc (.cells #[.int .i64 x] 3)).alloc (.cells #[.int .i64 0] 3)) (w.heap.size+1) 3 #[.int .i64 0]:=by
  have:=Blk.new (w.alloc (.cells #[.int .i64 x] 3)) 3 #[.int .i64 0]
  simpa using this
 refine (callsIn_wide (n:=6)).1 ?_
 refine callsIn_of_wp_marks Tryz.func46 rfl trivial ?_ rfl
 simp only [Tryz.ntmps46,List.size_toArray,List.length_cons,List.length_nil,Nat.reduceAdd,Nat.reduceSub,Array.replicate_succ,Array.replicate_zero,List.push_toArray,List.append_toArray,List.nil_append,List.cons_append]
 refine wpIn_wide.2 ?_
 go_wp2_with fail
 generalize ((w.alloc (.cells #[.int .i64 x] 3)).alloc (.cells #[.int .i64 0] 3)) = W at hb b5 ⊢
 refine (agEach_nil W).mono ?_
 rintro e w1 ⟨rfl,hc,hb1⟩
 have c5:=b5.below hb1
 have hB:=below_two hb hb1
 have HS:=Lib.hid (agEach1_nil 5 w1 (W.heap.size+1) W.heap.size hc)
 have hz5:=c5.lt
 clear hb b5 hb1 hc
 go_wp2_with fail
 refine (wpIn_wide (n:=6)).1 ?_
 refine rngH rfl (by decide) (gf:=71) (lb:=#[.pointer (some ⟨W.heap.size+1,0,none⟩),.pointer (some ⟨W.heap.size,0,none⟩)]) rfl trivial (enters_of Tryz.func71 (by kernel_rfl) rfl)
  HS.out (fun _ _=>trivial) (fun _ _ _ _ _ _ _ _=>trivial) (Below.refl _ _) (fun _=>rfl) (fun _=>trivial)
  (fun (_ : List Unit) V=>Blk V (w.heap.size+1) 3 #[.int .i64 0]∧Below w.heap.size w V) (fun _ _ _=>False)
  (OwnFrom.and (Go.Own.from (fun s A B row hs hg hr=>hs.kept hg hr) _) (ownFrom_below (Nat.le_refl _) hB.size)) (fun _ _ _ _ _ hs _ _=>hs)
  ⟨c5,hB⟩ (fun U _=>((U.setIfInBounds 9 (.int .i64 0)).setIfInBounds 10 (.string ⟨#[]⟩)).setIfInBounds 6 (.int .i64 0)) ?assign ?body ?done ?stop
 case assign =>
  intro l2 y V K hK
  simp only [zD,zF,zE] at hK
  gi_wp2
  exact hK
 case body =>
  rintro l2 pre y Wb hl2 _ _ hlen
  exact absurd hlen (Nat.not_lt_zero _)
 case done =>
  rintro D xs V hD _ ⟨c5V,hBV⟩ hK
  have e5:=c5V.cell 0
  simp only [zG,zH] at e5
  have HK:=Lib.hid hK
  clear hK
  go_wp2_with fail
  refine ⟨by simp,.inl ⟨_,_,rfl,run_takeDeferred HK.out,?_⟩⟩
  refine ⟨_,results_tmp rfl _ _ _,rfl,?_⟩
  exact hBV.trans (belowK_b (w:=w) (Nat.le_refl _) _ D _ _ (by have:=hB.size;omega) HK.out rfl rfl)
 case stop =>
  rintro D cc pre V hD hp h _
  exact absurd h id
theorem aAgainNil_any (x : Int) (n : Int) (A : Option Addr) (m c : Nat) (w : World) (hE : Env w) : Calls Tryz.prog 11 #[.int .i64 x,.agg #[.int .i64 n,.slice A m c]] w fun e w'=>e = .returned (.bool true)∧Below w.heap.size w w':=by
 have hb0 : Below w.heap.size w (w.alloc (.cells #[.int .i64 n,.slice A m c] 56)):=(Below.refl _ _).alloc (Nat.le_refl _) _
 have b3:=Blk.new w 56 #[.int .i64 n,.slice A m c]
 have HA:=Lib.hid (fun W=>agApply_nil n A m c W)
 have HAt:=Lib.hid (fun W=>agAt_nil x W)
 have HN:=Lib.hid (fun W=>agnum_any 0 W)
 have HEd:=Lib.hid (fun W=>agEdit_nil x x ⟨#[120]⟩ W)
 have HT:=Lib.hid (fun W=>agText_nil W)
 have HB:=Lib.hid (fun W=>agBounds_nil W)
 have HC:=Lib.hid (fun W=>agCount_nil W)
 have HI:=Lib.hid (fun W=>agIs_nil x W)
 have HNx:=Lib.hid (fun W=>agNext_nil x W)
 have HP:=Lib.hid (fun W=>agPrev_nil x W)
 have HNu:=Lib.hid (fun W=>agNumber_nil x W)
 have HCo:=Lib.hid (fun W=>agCopy_nil W)
 have HL:=Lib.hid (fun W (h : Env W)=>aglive_any W h)
 go_enter Tryz.func11,Tryz.ntmps11
 go_wp2_with fail
 generalize w.alloc (.cells #[.int .i64 n,.slice A m c] 56) = w0 at hb0 b3 ⊢
 have c0:=b3.cell 0
 have c1:=b3.cell 1
 simp only [zG,zH,zI] at c0 c1
 go_wp2_with fail
 refine (HA.out w0).mono ?_
 rintro e w1 ⟨rfl,hb1⟩
 have hB1:=below_two hb0 hb1
 clear hb0 hb1 b3 c0 c1
 go_wp2_with fail
 refine (HAt.out w1).mono ?_
 rintro e w2 ⟨rfl,rfl⟩
 go_wp2_with fail
 refine (HN.out w1).mono ?_
 rintro e w2 ⟨rfl,rfl⟩
 go_wp2_with fail
 refine (HEd.out w1).mono ?_
 rintro e w2 ⟨rfl,hb2⟩
 have hB2:=below_two hB1 hb2
 clear hB1 hb2
 go_wp2_with fail
 refine (HT.out w2).mono ?_
 rintro e w3 ⟨rfl,rfl⟩
 go_wp2_with fail
 refine (HB.out w2).mono ?_
 rintro e w3 ⟨rfl,rfl⟩
 go_wp2_with fail
 refine (HC.out w2).mono ?_
 rintro e w3 ⟨rfl,rfl⟩
 go_wp2_with fail
 refine (HI.out w2).mono ?_
 rintro e w3 ⟨rfl,rfl⟩
 go_wp2_with fail
 refine (HNx.out w2).mono ?_
 rintro e w3 ⟨rfl,rfl⟩
 go_wp2_with fail
 refine (HP.out w2).mono ?_
 rintro e w3 ⟨rfl,rfl⟩
 go_wp2_with fail
 refine (HNu.out w2).mono ?_
 rintro e w3 ⟨rfl,hb3⟩
 have hB3:=below_two hB2 hb3
 clear hB2 hb3
 go_wp2_with fail
 refine (HCo.out w3).mono ?_
 rintro e w4 ⟨rfl,rfl⟩
 go_wp2_with fail
 refine (HL.out w3 (hE.below hB3)).mono ?_
 rintro e w4 ⟨rfl,hb4⟩
 go_wp2
 go_ret
 exact ⟨rfl,below_two hB3 hb4⟩
end
end Go.Proofs.YtlfpdpbbkjnapaaGreatDoor
