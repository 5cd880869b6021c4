/-
 Several texts in one,in their build order: ZcA,ZfA,ZdA,ZdB.
-/
import Derived.Laws.EntriesVeiled
import Derived.Test.YtglmcknlnoknoaaGreatDoorYWordWordsZbD
import Derived.Test.YtglmcknlnoknoaaGreatDoorYWordWords0b
import Derived.Test.YtglmcknlnoknoaaGreatDoorYWordWords7a
import Derived.Test.YtglmcknlnoknoaaGreatDoorYWordWords0a
import Derived.Test.YtglmcknlnoknoaaGreatDoorYWordWords2a
import Derived.Test.YtglmcknlnoknoaaGreatDoorYWordWords5a
/- -/
namespace Go.Proofs.YtglmcknlnoknoaaGreatDoor
set_option maxRecDepth 100000
set_option maxHeartbeats 40000000
section
open Go.RowKit
theorem wPick_pick (c : List Int) : ∀ (r : List (Nat × Nat × Nat)) (i : Nat),wPick c i (r.map fun x=>x.2.1) = pickG r ((List.range' i r.length).map fun j=>decide (j = 0) || wCut c j)
 | [],i=>by simp [wPick,pickG]
 | x :: r,i=>by
  rw [List.map_cons,wPick,wPick_pick c r (i+1),List.length_cons,List.range'_succ,List.map_cons,pickG]
  congr 1
  by_cases h : i = 0∨wCut c i = true
  ·rw [if_pos h,if_pos (by simpa using h)]
  ·rw [if_neg h,if_neg (by simpa using h)]
theorem wBounds_X (g : Int→Nat) (s : ByteArray) : wBounds g s = boundsX (fun c i=>wCut (toI c) i) g s:=by
 unfold wBounds boundsX
 have hc : wCls g s = toI (clsG g (runesP s)):=by unfold wCls toI clsG;rw [List.map_map];rfl
 by_cases h : s.size = 0
 ·rw [if_pos h,if_pos h,List.append_nil]
  have : (runesP s).length = 0:=by have:=runesP_len s;omega
  rw [List.length_eq_zero_iff.1 this];rfl
 ·rw [if_neg h,if_neg h,wPick_pick,hc,List.range_eq_range']
theorem wBounds_rules (s : ByteArray) : boundsM rulesW true gW s = wBounds gW s:=by
 rw [wBounds_X]
 unfold boundsM
 exact boundsX_congr (z:=20) gW_lt (fun c i hc h0 hi=>by rw [decideM_eq true h0 hi,rules_word hc h0 hi]) s
def okRu (l : List RuleP) : Bool:=l.all fun r=>goodP 64 r.left && goodP 64 r.right && decide (sizeP r.left≤2048) && decide (sizeP r.right≤2048)
theorem okRu_spec {l : List RuleP} (h : okRu l = true) : ∀ r ∈ l,RuleOk r:=fun r hr=>by
 unfold okRu at h
 rw [List.all_eq_true] at h
 have:=h r hr
 simp only [Bool.and_eq_true,decide_eq_true_iff] at this
 exact ⟨this.1.1.1,this.1.1.2,this.1.2,this.2⟩
theorem rulesW_ok : ∀ r ∈ rulesW,RuleOk r:=okRu_spec (by kernel_rfl)
theorem word_nms : nmsOk wordD.names = true:=by kernel_rfl
theorem vBounds_any (s : ByteArray) (w : World) (hs : s.size≤90000) :
  Calls Tryz.prog 146 #[.string s] w fun e w'=>∃ (A : Option Addr) (k c : Nat),e = .returned (.slice A k c)∧Own w' w.heap.size 3 1 A k c ((wBounds gW s).map encN)∧Below w.heap.size w w':=by
 have HV : Hid (boundsM rulesW true wordD.get s = wBounds gW s):=Lib.hid (wBounds_rules s)
 have HD:=Lib.hid (fun W=>kDbR_any W)
 have HN:=Lib.hid (fun base p x W (h : RfB W base p x wordD.names wordD.full)=>vNames_any base p x wordD.names wordD.full W h (nms_len word_nms))
 have HB:=Lib.hid (fun base p x v X W (h : RfB W base p x wordD.names wordD.full) (hr : RsX W X rulesW v)=>zBounds_any base p x wordD rulesW true v X s W h wordOk.1 wordOk.2.1 hr rulesW_ok (by decide) hs)
 rw [HV.out] at HB
 go_enter Tryz.func146,Tryz.ntmps146
 generalize hT : ByteArray.mk _ = R
 have HR : rulesP wordD.names R.data.toList = some ⟨rulesW,true,true⟩:=by rw [← hT];kernel_rfl
 clear hT
 have HO:=Lib.hid (fun A nn cn W (hA : Rd W 1 A (wordD.names.map encNm)) (hAl : ∀ x,A = some x→x.block < W.heap.size) (hl : wordD.names.length = nn)=>oParse_any R.data.toList A nn cn wordD.names ⟨rulesW,true,true⟩ W hA hAl hl word_nms HR)
 rw [show bytesOf R.data.toList = R from bytesOf_data R] at HO
 clear HR
 go_wp2_with fail
 refine (HD.out _).mono ?_
 rintro e w1 ⟨p,x,rfl,hf,hb1⟩
 have HN1:=Lib.hid (HN.out _ p x w1 hf)
 go_wp2_with fail
 refine HN1.out.mono ?_
 rintro e w2 ⟨A,nn,cn,rfl,ho2,hb2⟩
 have HO2:=Lib.hid (HO.out A nn cn w2 (ho2.rd (by decide)) (fun x hx=>(ho2.lt x hx).2) (by have:=ho2.len;simpa using this))
 have hf2:=hf.below hb2
 have hb12:=below_two hb1 hb2
 clear HN1 HN HO HD hf ho2
 go_wp2_with fail
 refine HO2.out.mono ?_
 rintro e w3 ⟨v,rfl,hx3,hb3⟩
 have hf3:=hf2.below hb3
 have hb13:=below_two hb12 hb3
 obtain ⟨A1,n1,c1⟩:=v
 have hal : Below w3.heap.size w3 (w3.alloc (.cells #[.slice A1 n1 c1,.bool true] 110)):=(Below.refl _ _).alloc (Nat.le_refl _) _
 have HB3:=Lib.hid (HB.out _ p x (A1,n1,c1) _ _ (hf3.below hal) (hx3.below hal))
 simp only [valRs] at HB3 ⊢
 clear HO2 hf2 hb12 hb1 hb2 hb3 HB
 go_wp2_with fail
 refine HB3.out.mono ?_
 rintro e w4 ⟨A4,n4,c4,rfl,ho4,hb4⟩
 have hb14:=below_two hb13 (below_two hal hb4)
 go_wp2
 go_ret
 exact ⟨A4,n4,c4,rfl,ho4.more (by have:=hb13.size;have:=hal.size;omega),hb14⟩
end
section
open Go.RowKit Go.Shelf
attribute [local go_sem] Oper.semAt_some
theorem others_below {A B : World} (h : Below A.heap.size A B) : KeepsOthers A B:=⟨h.size,fun j _ hj _=>(h.block j (Array.getElem?_eq_some_iff.1 hj).1).trans hj⟩
theorem prefix_nextP {α : Type} {R pre : List α} {x : α} (h : pre++[x] <+: R) : R[pre.length]? = some x:=by
 obtain ⟨r,rfl⟩:=h
 simp
section
variable {F : Fence} {n : Nat} {P : Program}
end
end
section
open Go.RowKit
end
section
open Go.RowKit Go.Shelf
attribute [local go_sem] Oper.semAt_some
end
end Go.Proofs.YtglmcknlnoknoaaGreatDoor
