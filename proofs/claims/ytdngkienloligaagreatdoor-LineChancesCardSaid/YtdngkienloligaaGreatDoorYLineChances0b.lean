/-
 Several texts in one,in their build order: LinR,Dl,Td,UtfS,UtfI,UtfL,Tf,Va,Vc,Ve,Vf,SenP,PrsS,PrsR,PrsW,PrK,PrL,TrD,Vm,PrsT,LinV,Li,Ta,Tb,Tn.
-/
import Derived.Lib.SpaceU
import Derived.WalkMore
import Derived.Deep.DeepMust
import Derived.Laws.BitsAllLaws
import Derived.Laws.Bits
import Derived.Deep.CutRange
import Derived.Deep.RegionHeld3
import Derived.Test.YtdngkienloligaaGreatDoorYLineChances0a
import Derived.Test.YtdngkienloligaaGreatDoorV0a
import Derived.Test.YtdngkienloligaaGreatDoorV0b
/- -/
namespace Go.Proofs.YtdngkienloligaaGreatDoor
theorem decN_tail {n b0 b1 b2 b3 R W : Nat} (h : Lib.decodeN n b0 b1 b2 b3 = (R,W)) : (2≤W→b1 / 64 = 2)∧(3≤W→b2 / 64 = 2)∧(4≤W→b3 / 64 = 2)∧W≤4:=by
 unfold Lib.decodeN at h
 repeat' split at h
 all_goals (injection h with _ h;omega)
theorem dec_tail {s : ByteArray} {i k R W : Nat} (h : Utf8.decode s i = (R,W)) (hk : 0 < k) (hW : k < W) : (s.get! (i+k)).toNat / 64 = 2:=by
 rw [Lib.decode_at] at h
 obtain ⟨h1,h2,h3,h4⟩:=decN_tail h
 rcases (show k = 1∨k = 2∨k = 3 by omega) with rfl | rfl | rfl
 ·exact h1 (by omega)
 ·exact h2 (by omega)
 ·exact h3 (by omega)
theorem lead_at (s : ByteArray) {z : Nat} (hz : z < s.size) (ha : (s.get! z).toNat / 64 ≠ 2) : ∀ (f a : Nat),s.size≤a+f→a≤z→∃ x ∈ runesGo s f a,x.2.1 = z
 | 0,a,hf,hle=>by omega
 | f+1,a,hf,hle=>by
  have hlt : a < s.size:=by omega
  have hd:=dec_bd s a hlt
  obtain ⟨⟨R,W⟩,hD⟩ : ∃ d,Utf8.decode s a = d:=⟨_,rfl⟩
  rw [hD] at hd
  simp only at hd
  have hr : runesGo s (f+1) a = (R,a,a+W) :: runesGo s f (a+W):=by rw [runesGo,if_pos hlt,hD]
  rw [hr]
  by_cases haz : a = z
  ·exact ⟨_,List.mem_cons_self,haz⟩
  ·have hle2 : a+W≤z:=by
    rcases Nat.lt_or_ge z (a+W) with h | h
    ·have:=dec_tail hD (k:=z - a) (by omega) (by omega)
     rw [show a+(z - a) = z by omega] at this;omega
    ·exact h
   obtain ⟨x,hx,e⟩:=lead_at s hz ha f (a+W) (by omega) hle2
   exact ⟨x,List.mem_cons_of_mem _ hx,e⟩
def lCls (g : Int→Nat) (s : ByteArray) : List Int:=(runesP s).map fun x=>(g x.1 : Int)
def lPick (c : List Int) : Nat→List Nat→List (Nat × Bool)
 | _,[]=>[]
 | i,a :: r=>(if i ≠ 0∧lCut c i = true then [(a,lMust (c.getD (i - 1) 0))] else [])++lPick c (i+1) r
def lChances (g : Int→Nat) (s : ByteArray) : List (Nat × Bool):=lPick (lCls g s) 0 ((runesP s).map (·.2.1))++(if s.size = 0 then [] else [(s.size,true)])
theorem lCls_len (g : Int→Nat) (s : ByteArray) : (lCls g s).length = (runesP s).length:=by simp [lCls]
theorem lPick_append (c : List Int) : ∀ (P Q : List Nat) (i : Nat),lPick c i (P++Q) = lPick c i P++lPick c (i+P.length) Q
 | [],Q,i=>by simp [lPick]
 | a :: P,Q,i=>by
  rw [List.cons_append,lPick,lPick,lPick_append c P Q (i+1),List.append_assoc,List.length_cons,show i+1+P.length = i+(P.length+1) by omega]
end Go.Proofs.YtdngkienloligaaGreatDoor
/- -/
namespace Go.Proofs.YtdngkienloligaaGreatDoor
def linesD : DbP:=⟨[otherL,[66,107],[67,114],[76,102],[83,112],[90,119],[87,106],[71,108],[67,109],[79,112],[67,112],[67,108],[81,117],[69,120],[73,115],[83,121],[72,121],[66,97],[68,97,115,104],[73,110],[78,117],[80,111],[80,114],[73,100],[78,115],[82,105]],[[],[(11,12),(133,133),(8232,8233)],[(13,13)],[(10,10)],[(32,32)],[(8203,8203)],[(8288,8288),(65279,65279)],[(160,160),(8199,8199),(8239,8239)],[(768,879),(1425,1469),(8204,8205),(12441,12442),(65024,65039),(127995,127999)],[(40,40),(91,91),(123,123),(161,161),(191,191),(8218,8218),(12296,12296),(12298,12298),(12300,12300)],[(41,41),(93,93)],[(125,125),(12289,12290),(12297,12297),(12299,12299),(12301,12301)],[(34,34),(39,39),(171,171),(187,187),(8216,8217),(8220,8221)],[(33,33),(63,63)],[(44,44),(46,46),(58,59)],[(47,47)],[(45,45)],[(9,9),(173,173),(8208,8208),(8211,8211)],[(8212,8212)],[(8230,8230)],[(48,57),(1632,1641)],[(37,37),(162,162),(176,176),(8240,8240)],[(36,36),(43,43),(92,92),(163,165),(177,177),(8364,8364)],[(12353,12438),(12449,12538),(13312,19903),(19968,40959),(127744,127994),(128000,128591)],[(12293,12293),(12316,12316),(12443,12446),(12539,12542)],[(127462,127487)]]⟩
set_option maxRecDepth 100000 in
theorem lines_ok : linesD.okB = true:=by kernel_rfl
theorem linesOk : linesD.Ok∧Apart linesD.sets∧linesD.Named:=DbP.okB_spec lines_ok
def gL (r : Int) : Nat:=linesD.get r
theorem gL_lt (r : Int) : gL r < 26:=get_lt linesOk.1 r
end Go.Proofs.YtdngkienloligaaGreatDoor
/- -/
namespace Go.Proofs.YtdngkienloligaaGreatDoor
open Go.RowKit
theorem scAt_endL {g : Int→Nat} {s : ByteArray} {f q : Nat} {P : List Nat} {C : List Int} (h : ScAt g s f q P C) (hp : ¬ q < s.size) : P = (runesP s).map (·.2.1)∧C = lCls g s:=scAt_end h hp
theorem res_tscan (w : World) (b : Nat) (tmps : Array Value) (ht : tmps.getD 2 undef = .pointer (some ⟨b,0,none⟩)) {A1 A2 : Option Addr} {n1 c1 n2 c2 : Nat} (h : Blk w b 113 #[.slice A1 n1 c1,.slice A2 n2 c2]) :
  (results Tryz.f113 tmps).run Tryz.prog w = .ok (.agg #[.slice A1 n1 c1,.slice A2 n2 c2]) w:=by
 have ht' : tmps[2]?.getD undef = .pointer (some ⟨b,0,none⟩):=by simpa [Array.getD_eq_getD_getElem?] using ht
 have h0:=h.cell 0
 have h1:=h.cell 1
 simp only [List.getElem?_toArray,List.getElem?_cons_zero,List.getElem?_cons_succ] at h0 h1
 simp [results,Tryz.results113,go_sem,ht',h0,h1]
set_option maxRecDepth 100000 in
set_option maxHeartbeats 8000000 in
theorem tscan_any (s : ByteArray) (w : World) (hE : Env w) (hs : s.size≤1000000) :
  Calls Tryz.prog 113 #[.string s] w fun e w'=>∃ A1 n1 c1 A2 n2 c2,e = .returned (.agg #[.slice A1 n1 c1,.slice A2 n2 c2])∧Own w' w.heap.size 3 1 A1 n1 c1 (((runesP s).map (·.2.1)).map encN) ∧
   Own w' w.heap.size 3 1 A2 n2 c2 ((lCls gL s).map encZ)∧Below w.heap.size w w':=by
 obtain ⟨i0,hi0,hz0,hz1,hz2⟩:=info_parts infoInt
 have hB0 : Below w.heap.size w (w.alloc (.cells #[.slice none 0 0,.slice none 0 0] 113)):=(Below.refl _ _).alloc (Nat.le_refl _) _
 have hR0:=Blk.new w 113 #[.slice none 0 0,.slice none 0 0]
 have hE0:=hE.below hB0
 go_enter Tryz.func113,Tryz.ntmps113
 generalize hT : ByteArray.mk _ = T
 have HN : newP T.data.toList = .ok linesD:=by rw [← hT];exact new_K (by kernel_rfl) (by kernel_rfl)
 have hTl : T.data.toList.length≤maxLen:=by rw [← hT];exact of_decide_eq_true (by kernel_rfl)
 clear hT
 have HC:=wNew_any T.data.toList _ hE0 hTl
 rw [HN,bytes_is] at HC
 replace HC:=Lib.hid HC
 clear HN hTl
 go_wp2_with fail
 refine HC.out.mono ?_
 rintro e w1 ⟨⟨p,rfl,hd⟩,hb1⟩
 clear HC
 have hR1:=hR0.below hb1
 have hB1 : Below w.heap.size w w1:=hB0.trans (hb1.mono (by simp))
 have hsz1 : w.heap.size < w1.heap.size:=hR1.lt
 clear hR0 hB0 hE0 hb1
 have hM0 : ScM ((w1.alloc (.cells #[.slice none 0 0,.slice none 0 0] 113)).iter s 0) 113 w1.heap.size (w1.heap.size+2) w1.heap.size (w1.heap.size+1) s 0 [] none 0 0 none 0 0 [] [] :=
  ⟨(Blk.new w1 _ _).alloc _,(by have:=iter_new (w1.alloc (.cells #[.slice none 0 0,.slice none 0 0] 113)) s 0;simpa using this),Own.nil_ _ _ _ _,Own.nil_ _ _ _ _,fun _ _ h=>(by cases h),(by unfold World.iter;simp)⟩
 have hB2 : Below w1.heap.size w1 ((w1.alloc (.cells #[.slice none 0 0,.slice none 0 0] 113)).iter s 0):=below_iter ((Below.refl _ _).alloc (Nat.le_refl _) _) (by simp) _ _
 have HA0:=Lib.hid (scAt_first gL s)
 have HD:=Lib.hid hd
 clear hd hE
 go_wp2_with fail
 go_loopw [7] (fun _ wr=>∃ (q f : Nat) (A1 : Option Addr) (n1 c1 : Nat) (A2 : Option Addr) (n2 c2 : Nat) (P : List Nat) (C : List Int),ScM wr 113 w1.heap.size (w1.heap.size+2) w1.heap.size (w1.heap.size+1) s q [] A1 n1 c1 A2 n2 c2 P C ∧
   n1≤q∧n2≤q∧q≤s.size∧Hid (ScAt gL s f q P C)∧Below w1.heap.size w1 wr) (fun _ wr=>s.size - wr.iterPos (w1.heap.size+1))
 case atStart=>exact ⟨0,s.size,none,0,0,none,0,0,[],[],hM0,by omega,by omega,by omega,HA0,hB2⟩
 case round =>
  clear hM0 hB2 HA0
  obtain ⟨q,f,A1,n1,c1,A2,n2,c2,P,C,hM,hn1,hn2,hq,HA,hb⟩:=hrel
  have hit:=hM.it
  have Hpos:=Lib.hid (iterPos_of hit)
  by_cases hp : q < s.size
  ·obtain ⟨⟨R,W⟩,HDc⟩ : ∃ d,Utf8.decode s q = d:=⟨_,rfl⟩
   have hd:=dec_bd s q hp
   have hnx : ∀ ty,(Instr.next (.pointer (some ⟨w1.heap.size+1,0,none⟩)) true ty).run Tryz.prog wr = _:=fun ty=>Lib.run_next_any_at wr (w1.heap.size+1) s q ty hit hp
   have hM2:=hM.iterAt (q+(Utf8.decode s q).2)
   have hb2:=Lib.below_iterAt hb (k:=w1.heap.size+1) (by omega) s (q+(Utf8.decode s q).2)
   rw [HDc] at hd hnx hM2 hb2
   simp only at hd hnx hM2 hb2
   obtain ⟨g,HA'⟩:=scAt_add HA.out hp HDc (by omega)
   have HA':=Lib.hid HA'
   clear HA HDc hM hb hit
   generalize wr.iterAt (w1.heap.size+1) s (q+W) = w2 at hnx hM2 hb2
   have k0:=hM2.blk.cell 0
   simp only [List.getElem?_toArray,List.getElem?_cons_zero] at k0
   have hsz2:=hM2.lt.2.2.2.2.2
   go_upto_region 7 with (at_builtin;go_must (refine wpList_app rfl (.tmp 21) (.tmp 23) _ rfl (w1.heap.size+2) 3 i0 _ 1 8 Tryz.underlying40 hi0 hz0 hz1 hz2 rfl (by omega) A1 n1 c1 (P.map encN) rfl (hM2.o1.alloc _) _ 1 1 [encN q] rfl rfl (Rd.newAt (by simp) rfl) (encN_ok [q]) (by unfold maxLen;omega) (by omega) (by simp;omega) ?_);intro A3 c3 w3 ho3 hg3 hA3;have HM:=hM2.more1 (x:=q) (by rw [List.map_append];exact ho3) hg3 hA3;have k3:=HM.1.cell 0;have f3:=HM.1.frozen 0;simp only [List.getElem?_toArray,List.getElem?_cons_zero] at k3)
   have hM5:=HM.2.1
   have hb5:=HM.2.2 _ hb2
   clear HM k3 f3 hg3 ho3 hA3 hM2 hb2 hnx k0
   generalize w3.setCell ⟨w1.heap.size,0,none⟩ (.slice A3 (n1+1) c3) = w5 at hM5 hb5 ⊢
   have k5:=hM5.blk.cell 1
   simp only [List.getElem?_toArray,List.getElem?_cons_zero,List.getElem?_cons_succ] at k5
   have HG:=Lib.hid (wGet_any p linesD R w5.drew ((HD.out.below hb5).drewN 1) linesOk.1 linesOk.2.1)
   have hsz5:=hM5.lt.2.2.2.2.2
   go_wp2_with fail
   refine wp_region_last (S:=fun V=>V.cell? ⟨w1.heap.size,1,none⟩ = some (.slice A2 n2 c2)) 8 rfl (by kernel_rfl) (by kernel_rfl) (by kernel_rfl) k5 (fun hHeld=>?_)
   simp only [List.dropLast_cons_cons,List.dropLast_singleton]
   refine wpAnyH_take (i:=0) (v:=?_) rfl (by kernel_rfl) (by kernel_rfl) (by kernel_rfl) (fun _ _ _ h=>h) (Or.inl ⟨by rfl,?_⟩) (by assumption) ?_;rotate_left;focus ((intro w hSw;(try dsimp only at hSw);go_simp);try with_reducible rfl)
   (try simp only [Act.put,List.getElem_toArray,List.getElem_cons_zero,List.setIfInBounds_toArray,List.set_cons_zero,List.set_cons_succ])
   refine wpAnyH_take (i:=1) (v:=?_) rfl (by kernel_rfl) (by kernel_rfl) (by kernel_rfl) (fun _ _ _ h=>h) (Or.inl ⟨by rfl,?_⟩) (by assumption) ?_;rotate_left;focus ((intro w hSw;(try dsimp only at hSw);go_simp);try with_reducible rfl)
   (try simp only [Act.put,List.getElem_toArray,List.getElem_cons_succ,List.getElem_cons_zero,List.setIfInBounds_toArray,List.set_cons_zero,List.set_cons_succ])
   refine wpAnyH_take (i:=2) (v:=?_) rfl (by kernel_rfl) (by kernel_rfl) (by kernel_rfl) (fun _ _ _ h=>h) (Or.inl ⟨by rfl,?_⟩) (by assumption) ?_;rotate_left;focus ((intro w hSw;(try dsimp only at hSw);go_simp);try with_reducible rfl)
   (try simp only [Act.put,List.getElem_toArray,List.getElem_cons_succ,List.getElem_cons_zero,List.setIfInBounds_toArray,List.set_cons_zero,List.set_cons_succ])
   refine wpAnyH_take (i:=3) (v:=?_) rfl (by kernel_rfl) (by kernel_rfl) (by kernel_rfl) (fun _ _ _ h=>h) (Or.inl ⟨by rfl,?_⟩) (by assumption) ?_;rotate_left;focus ((intro w hSw;(try dsimp only at hSw);go_simp);try with_reducible rfl)
   (try simp only [Act.put,List.getElem_toArray,List.getElem_cons_succ,List.getElem_cons_zero,List.setIfInBounds_toArray,List.set_cons_zero,List.set_cons_succ])
   refine wpAnyH_ready (rs:=[4]) (by kernel_rfl) (by simp) ?_
   refine AllReadyH.cons rfl (fun K hK=>?_) AllReadyH.nil
   go_simp
   refine HG.out.mono ?_
   rintro e wz ⟨rfl,hbz⟩
   have hMz:=(hM5.below (w':=w5.drew) (Below.refl _ _).drew).below hbz
   have hbbz:=below_step (below_drewN hb5 1) hbz hb5.size
   have kz:=hMz.blk.cell 1
   simp only [List.getElem?_toArray,List.getElem?_cons_zero,List.getElem?_cons_succ] at kz
   have hszz:=hMz.lt.2.2.2.2.2
   refine hK.out _ _ kz (fun hHeld=>?_)
   clear hK K
   refine wpAnyH_ready (rs:=[5]) (by kernel_rfl) (by simp) ?_
   refine AllReadyH.cons rfl (fun K hK=>?_) AllReadyH.nil
   go_simp
   refine hK.out _ _ (cell_keep kz ((Below.refl _ _).alloc (Nat.le_refl _) _)) (fun hHeld=>?_)
   clear hK K
   refine wpAnyH_ready (rs:=[6]) (by kernel_rfl) (by simp) ?_
   refine AllReadyH.cons rfl (fun K hK=>?_) AllReadyH.nil
   refine step_app rfl (.tmp 27) (.tmp 31) _ rfl (w1.heap.size+2) 3 i0 _ 1 8 Tryz.underlying40 hi0 hz0 hz1 hz2 rfl (by omega) A2 n2 c2 (C.map encZ) rfl (hMz.o2.alloc _) _ 1 1 [encZ (gL R : Int)] rfl rfl (Rd.newAt (by simp) rfl) (encZ_ok [(gL R : Int)]) (by unfold maxLen;omega) (by omega) (by simp;omega) ?_
   intro A4 c4 w4 ho4 hg4 hA4
   have HM:=hMz.more2 (x:=(gL R : Int)) (by rw [List.map_append];exact ho4) hg4 hA4
   have k4:=HM.1.cell 1
   have f4:=HM.1.frozen 1
   simp only [List.getElem?_toArray,List.getElem?_cons_zero,List.getElem?_cons_succ] at k4
   refine hK.out _ _ k4 (fun hHeld=>?_)
   clear hK K
   refine wpAnyH_take (i:=7) (v:=?_) rfl (by kernel_rfl) (by kernel_rfl) (by kernel_rfl) (fun _ _ _ h=>h) (Or.inl ⟨by rfl,?_⟩) (by assumption) ?_;rotate_left;focus ((intro w hSw;(try dsimp only at hSw);go_simp);try with_reducible rfl)
   (try simp only [Act.put,List.getElem_toArray,List.getElem_cons_succ,List.getElem_cons_zero,List.setIfInBounds_toArray,List.set_cons_zero,List.set_cons_succ])
   refine wpAnyH_done (by kernel_rfl) ?_ _
   refine tailQ_end (wpOp_step (i:=8) rfl (fun K hK=>?_))
   go_simp
   refine hK _ _ ?_
   clear hK K
   have hM6:=HM.2.1
   have hb6:=HM.2.2 _ hbbz
   go_wp2
   go_roundw
   case rel=>exact ⟨q+W,g,_,_,_,_,_,_,P++[q],C++[(gL R : Int)],hM6,by omega,by omega,by omega,HA',hb6⟩
   case measure=>rw [iterPos_of hM6.it,Hpos.out];omega
  ·have hnx : ∀ ty,(Instr.next (.pointer (some ⟨w1.heap.size+1,0,none⟩)) true ty).run Tryz.prog wr = _:=fun ty=>Lib.run_next_end_at wr (w1.heap.size+1) s q ty hit hp
   have HE:=Lib.hid (scAt_endL HA.out hp)
   have hRr:=hR1.below hb
   have k0:=hM.blk.cell 0
   have k1:=hM.blk.cell 1
   have r0:=hRr.cell 0
   have r1:=hRr.cell 1
   have g0:=hRr.frozen 0
   have g1:=hRr.frozen 1
   simp only [List.getElem?_toArray,List.getElem?_cons_zero,List.getElem?_cons_succ] at k0 k1 r0 r1
   go_wp2
   have hl1 : ∀ a,A1 = some a→a.block ≠ w.heap.size:=fun a ha=>by have:=(hM.o1.lt a ha).1;omega
   have hl2 : ∀ a,A2 = some a→a.block ≠ w.heap.size:=fun a ha=>by have:=(hM.o2.lt a ha).1;omega
   have hBk:=((hRr.set_ 0 (.slice A1 n1 c1)).set_ 1 (.slice A2 n2 c2))
   have ho1:=(((hM.o1.setCell (p:=⟨w.heap.size,0,none⟩) hl1 (.slice A1 n1 c1)).setCell (p:=⟨w.heap.size,1,none⟩) hl1 (.slice A2 n2 c2)).more (b':=w.heap.size) (by omega))
   have ho2:=(((hM.o2.setCell (p:=⟨w.heap.size,0,none⟩) hl2 (.slice A1 n1 c1)).setCell (p:=⟨w.heap.size,1,none⟩) hl2 (.slice A2 n2 c2)).more (b':=w.heap.size) (by omega))
   have hbb:=(((below_step hB1 hb hB1.size).setCell (p:=⟨w.heap.size,0,none⟩) (Nat.le_refl _) (.slice A1 n1 c1)).setCell (p:=⟨w.heap.size,1,none⟩) (Nat.le_refl _) (.slice A2 n2 c2))
   rw [HE.out.1] at ho1
   rw [HE.out.2] at ho2
   refine bodyPost_ret (res_tscan _ w.heap.size _ rfl (by simpa using hBk)) rfl ?_
   exact ⟨_,_,_,_,_,_,rfl,ho1,ho2,hbb⟩
end Go.Proofs.YtdngkienloligaaGreatDoor
/- -/
namespace Go.Proofs.YtdngkienloligaaGreatDoor
theorem runes_rise' (s : ByteArray) : (runesP s).Pairwise fun x y=>x.2.1 < y.2.1:=by
 have : ∀ (f a : Nat),(runesGo s f a).Pairwise fun x y=>x.2.1 < y.2.1:=by
  intro f
  induction f with
  | zero=>intro a;exact .nil
  | succ f ih =>
   intro a
   rw [runesGo]
   split
   ·rename_i hlt
    have hd:=dec_bd s a hlt
    refine .cons (fun y hy=>?_) (ih _)
    have:=runesGo_bd _ _ y hy
    simp only;omega
   ·exact .nil
 exact this _ _
end Go.Proofs.YtdngkienloligaaGreatDoor
/- -/
namespace Go.Proofs.YtdngkienloligaaGreatDoor
theorem decN_lead {n b0 b1 b2 b3 R W : Nat} (h : Lib.decodeN n b0 b1 b2 b3 = (R,W)) (hW : 2≤W) (h0 : b0 < 256) : b0 / 64 = 3:=by
 unfold Lib.decodeN at h
 repeat' split at h
 all_goals (injection h with _ h;omega)
theorem dec_lead {s : ByteArray} {i R W : Nat} (h : Utf8.decode s i = (R,W)) (hW : 2≤W) : (s.get! i).toNat / 64 = 3:=by
 rw [Lib.decode_at] at h
 exact decN_lead h hW (s.get! i).toNat_lt
theorem place_gap (s : ByteArray) : ∀ (r : List (Nat × Nat × Nat)) (p z : Nat),Contig p r z→∀ x ∈ r,∀ y ∈ r,¬ (x.2.1 < y.2.1∧y.2.1 < x.2.2)
 | [],_,_,_,x,hx,_,_=>by simp at hx
 | a :: r,p,z,h,x,hx,y,hy=>by
  obtain ⟨h1,h2,h3⟩:=h
  have hle : ∀ {r : List (Nat × Nat × Nat)} {p z : Nat},Contig p r z→∀ x ∈ r,p≤x.2.1:=by
   intro r
   induction r with
   | nil=>intro p z _ x hx;simp at hx
   | cons w r ih =>
    intro p z h x hx
    obtain ⟨k1,k2,k3⟩:=h
    rcases List.mem_cons.1 hx with rfl | hx
    ·omega
    ·have:=ih k3 x hx;omega
  rcases List.mem_cons.1 hx with ex | hx'
  ·rcases List.mem_cons.1 hy with ey | hy'
   ·rw [ex,ey];omega
   ·have:=hle h3 y hy';rw [ex];omega
  ·rcases List.mem_cons.1 hy with ey | hy'
   ·have:=hle h3 x hx';rw [ey];omega
   ·exact place_gap s r _ z h3 x hx' y hy'
end Go.Proofs.YtdngkienloligaaGreatDoor
/- -/
namespace Go.Proofs.YtdngkienloligaaGreatDoor
theorem lastStart_eq (l : List UInt8) : Lib.lastStart l = if l.length < 2 then 0 else if Lib.runeStartB (l.getD (l.length - 2) 0) = true then l.length - 2 else if l.length < 3 then 0 else if Lib.runeStartB (l.getD (l.length - 3) 0) = true then l.length - 3 else if l.length < 4 then 0 else if Lib.runeStartB (l.getD (l.length - 4) 0) = true then l.length - 4 else if l.length < 5 then 0 else l.length - 5:=rfl
theorem start_iff (b : UInt8) : Lib.runeStartB b = true ↔ b.toNat / 64 ≠ 2:=by unfold Lib.runeStartB;simp
theorem dec_drop (s : ByteArray) (k : Nat) : Lib.decodeL (s.data.toList.drop k) = Utf8.decode s k:=by
 unfold Lib.decodeL
 have h:=Lib.tail_decode s k 0
 rw [Nat.add_zero] at h
 rw [← h]
 congr 1
 have : (s.extract k s.size).data.toList = s.data.toList.drop k:=by
  rw [ByteArray.data_extract,Array.toList_extract,List.extract_eq_take_drop,List.take_of_length_le (by rw [List.length_drop,size_data];exact Nat.le_refl _)]
 rw [← this]
theorem last_rune (s : ByteArray) {x : Nat × Nat × Nat} (hx : x ∈ runesP s) (he : x.2.2 = s.size) : Lib.decodeLastL s.data.toList = (x.1,x.2.2 - x.2.1):=by
 have hb:=runesP_bd x hx
 have hd:=runesGo_dec _ _ x hx
 have hsz:=size_data s
 have hget : ∀ k,s.data.toList.getD k 0 = s.get! k:=fun k=>Lib.getD_get!' s k
 have hne : s.data.toList ≠ []:=fun h=>by rw [h] at hsz;simp at hsz;omega
 have huniq : ∀ y ∈ runesP s,y.2.1 < s.size→x.2.1≤y.2.1→y.2.1 = x.2.1:=fun y hy h1 h2=>by
  rcases Nat.lt_or_ge x.2.1 y.2.1 with h3 | h3
  ·exact absurd ⟨h3,by omega⟩ (place_gap s _ 0 s.size (runesP_contig s) x hx y hy)
  ·omega
 unfold Lib.decodeLastL
 rw [if_neg hne,hsz,hget]
 by_cases hasc : (s.get! (s.size - 1)).toNat < 128
 ·rw [if_pos hasc]
  obtain ⟨y,hy,e⟩:=ascii_at s (z:=s.size - 1) (by omega) hasc s.size 0 (by omega) (Nat.zero_le _)
  have:=huniq y hy (by omega) (by omega)
  have hp : x.2.1 = s.size - 1:=by omega
  rw [hp,Lib.decode_at] at hd
  unfold Lib.decodeN at hd
  rw [if_pos hasc] at hd
  rw [hp,← hd]
 ·rw [if_neg hasc]
  have hst : Lib.lastStart s.data.toList < s.size∧(Lib.lastStart s.data.toList+1 = s.size→s.size = 1):=by
   rw [lastStart_eq,hsz]
   repeat' split
   all_goals omega
  rw [dec_drop s _]
  simp only
  rcases Nat.lt_or_ge (x.2.2 - x.2.1) 2 with hW | hW
  ·-- one byte
   have hp : x.2.1 = s.size - 1:=by omega
   have hW1 : x.2.2 - x.2.1 = 1:=by omega
   have hR : x.1 = 65533:=by
    rw [hW1,hp,Lib.decode_at] at hd
    unfold Lib.decodeN at hd
    rw [if_neg hasc] at hd
    repeat' split at hd
    all_goals (injection hd with h1 h2;omega)
   obtain ⟨⟨R',W'⟩,hD⟩ : ∃ d,Utf8.decode s (Lib.lastStart s.data.toList) = d:=⟨_,rfl⟩
   have hbd:=dec_bd s _ hst.1
   rw [hD] at hbd ⊢
   simp only at hbd ⊢
   split
   ·rename_i hsum
    rcases Nat.lt_or_ge W' 2 with h1 | h1
    ·have h0 : Lib.lastStart s.data.toList = x.2.1:=by have:=hst.2 (by omega);omega
     rw [h0,hd] at hD
     exact hD.symm
    ·exfalso
     have hl:=dec_lead hD h1
     obtain ⟨y,hy,e⟩:=lead_at s hst.1 (by omega) s.size 0 (by omega) (Nat.zero_le _)
     have hdy:=runesGo_dec _ _ y hy
     rw [e,hD] at hdy
     injection hdy with _ h2
     have hby:=runesP_bd y hy
     exact place_gap s _ 0 s.size (runesP_contig s) y hy x hx (by omega)
   ·rw [hR,hW1];rfl
  ·-- several bytes
   have hl:=dec_lead hd hW
   have htail : ∀ k,0 < k→k < x.2.2 - x.2.1→¬ Lib.runeStartB (s.data.toList.getD (x.2.1+k) 0) = true:=fun k h0 h1=>by
    rw [start_iff,hget]
    have:=dec_tail hd h0 h1
    omega
   have hlead : Lib.runeStartB (s.data.toList.getD x.2.1 0) = true:=by rw [start_iff,hget];omega
   have hls : Lib.lastStart s.data.toList = x.2.1:=by
    rw [lastStart_eq,hsz]
    rcases (show x.2.2 - x.2.1 = 2∨x.2.2 - x.2.1 = 3∨x.2.2 - x.2.1 = 4 by omega) with h | h | h
    ·rw [if_neg (by omega),show s.size - 2 = x.2.1 by omega,if_pos hlead]
    ·rw [if_neg (by omega),show s.size - 2 = x.2.1+1 by omega,if_neg (htail 1 (by omega) (by omega)),if_neg (by omega),show s.size - 3 = x.2.1 by omega,if_pos hlead]
    ·rw [if_neg (by omega),show s.size - 2 = x.2.1+2 by omega,if_neg (htail 2 (by omega) (by omega)),if_neg (by omega),show s.size - 3 = x.2.1+1 by omega,if_neg (htail 1 (by omega) (by omega)),if_neg (by omega),show s.size - 4 = x.2.1 by omega,if_pos hlead]
   rw [hls,hd,if_pos (by simp only;omega)]
end Go.Proofs.YtdngkienloligaaGreatDoor
/- -/
namespace Go.Proofs.YtdngkienloligaaGreatDoor
open Go.RowKit
def lBl (c : Int) : Bool:=c == 4 || c == 1 || c == 2 || c == 3 || c == 5
def trR (g : Int→Nat) (l : List (Nat × Nat × Nat)) : Nat:=(((l.reverse.dropWhile fun x=>lBl (g (x.1 : Int))).head?).map (·.2.2)).getD 0
def trailP (g : Int→Nat) (s : ByteArray) : Nat:=trR g (runesP s)
theorem trR_snoc (g : Int→Nat) (l : List (Nat × Nat × Nat)) (x : Nat × Nat × Nat) : trR g (l++[x]) = if lBl (g (x.1 : Int)) then trR g l else x.2.2:=by
 unfold trR
 rw [List.reverse_append,List.reverse_singleton,List.singleton_append,List.dropWhile_cons]
 split <;> rfl
theorem takeWhile_snoc {l : List (Nat × Nat × Nat)} {x : Nat × Nat × Nat} (h : (l++[x]).Pairwise fun a b=>a.2.1 < b.2.1) : (l++[x]).takeWhile (fun y=>decide (y.2.1 < x.2.1)) = l:=by
 rw [List.pairwise_append] at h
 rw [List.takeWhile_append_of_pos fun a ha=>decide_eq_true (h.2.2 a ha x (by simp))]
 simp
theorem contig_last : ∀ {l : List (Nat × Nat × Nat)} {a z : Nat} {x : Nat × Nat × Nat},Contig a (l++[x]) z→x.2.2 = z
 | [],_,_,_,h=>h.2.2
 | _ :: l,_,_,_,h=>contig_last (l:=l) h.2.2
theorem trail_empty {g : Int→Nat} {t : ByteArray} (h : ¬ 0 < t.size) : trailP g t = t.size:=by
 have : runesP t = []:=by unfold runesP;rw [show t.size = 0 by omega];rfl
 unfold trailP
 rw [this,show t.size = 0 by omega];rfl
theorem trail_step (g : Int→Nat) (t : ByteArray) (h : 0 < t.size) : ∃ r w : Nat,Lib.decodeLastL t.data.toList = (r,w)∧1≤w∧w≤t.size∧trailP g t = if lBl (g (r : Int)) then trailP g (t.extract 0 (t.size - w)) else t.size:=by
 have hne : runesP t ≠ []:=fun e=>by
  obtain ⟨k,hk,e2⟩:=runesGo_step (s:=t) (f:=t.size) (a:=0) h (by omega)
  unfold runesP at e
  rw [e] at e2
  cases e2
 rcases List.eq_nil_or_concat (runesP t) with e | ⟨l,x,e⟩
 ·exact absurd e hne
 ·rw [List.concat_eq_append] at e
  have hx : x ∈ runesP t:=by rw [e];simp
  have hend : x.2.2 = t.size:=by
   have hc:=runesP_contig t
   rw [e] at hc
   exact contig_last hc
  have hb:=runesP_bd x hx
  have hr:=runes_rise' t
  have hp:=runesP_prefix t (z:=x.2.1) (by omega) (.inr (.inr ⟨x,hx,rfl⟩))
  rw [e] at hr hp
  rw [takeWhile_snoc hr] at hp
  refine ⟨x.1,x.2.2 - x.2.1,last_rune t hx hend,by omega,by omega,?_⟩
  rw [show t.size - (x.2.2 - x.2.1) = x.2.1 by omega]
  unfold trailP
  rw [hp,e,trR_snoc,hend]
set_option maxHeartbeats 1000000 in
theorem eLast_any (s : ByteArray) (w : World) (hT : Tabs w) (h0 : 0 < s.size) (hs : s.size≤1000000) :
  Calls Tryz.prog 21 #[.string s] w fun e w'=>e = .returned (.tuple #[.int .i32 (Lib.decodeLastL s.data.toList).1,.int .i64 (Lib.decodeLastL s.data.toList).2])∧Below w.heap.size w w':=by
 have HC:=Lib.hid (Tryz.utf8_DecodeLastRuneInString s w (by omega) hT)
 have hem : s.toList.isEmpty = false:=by
  rw [ByteArray.toList_eq]
  cases hq : s.data.toList with
  | nil=>rw [← size_data,hq] at h0;simp at h0
  | cons a b=>rfl
 obtain ⟨r,hr⟩ : ∃ r,Lib.decodeLastL s.data.toList = r:=⟨_,rfl⟩
 rw [hr] at HC ⊢
 clear hr
 go_enter Tryz.func21,Tryz.ntmps21
 go_wp2_with fail
 refine HC.out.mono ?_
 rintro e w1 ⟨rfl,hb⟩
 go_wp2
 go_ret2
 exact ⟨rfl,hb⟩
def txtSize : Value→Nat
 | .string t=>t.size
 | _=>0
set_option maxRecDepth 100000 in
set_option maxHeartbeats 8000000 in
theorem tTrail_any (s : ByteArray) (w : World) (hE : Env w) (hs : s.size≤1000000) :
  Calls Tryz.prog 112 #[.string s] w fun e w'=>e = .returned (.int .i64 (trailP gL s : Nat))∧Below w.heap.size w w':=by
 go_enter Tryz.func112,Tryz.ntmps112
 generalize hT : ByteArray.mk _ = T
 have HN : newP T.data.toList = .ok linesD:=by rw [← hT];exact new_K (by kernel_rfl) (by kernel_rfl)
 have hTl : T.data.toList.length≤maxLen:=by rw [← hT];exact of_decide_eq_true (by kernel_rfl)
 clear hT
 have HC:=wNew_any T.data.toList _ hE hTl
 rw [HN,bytes_is] at HC
 replace HC:=Lib.hid HC
 clear HN hTl
 go_wp2_with fail
 go_step3
 go_wp2_with fail
 refine HC.out.mono ?_
 rintro e w1 ⟨⟨p,rfl,hd⟩,hb1⟩
 clear HC
 have HE1:=Lib.hid (hE.below hb1)
 have HD:=Lib.hid hd
 clear hd hE
 have hsz1:=hb1.size
 go_wp2_with fail
 go_step3
 go_wp2_with fail
 go_loopw [0] (fun v wr=>∃ t : ByteArray,v = .string t∧t.size≤s.size∧Hid (trailP gL t = trailP gL s)∧Below w1.heap.size w1 wr) (fun v _=>txtSize v)
 case atStart=>exact ⟨s,rfl,Nat.le_refl _,Lib.hid rfl,Below.refl _ _⟩
 case round =>
  obtain ⟨t,rfl,ht,HTr,hb⟩:=hrel
  have hbb:=below_step hb1 hb hsz1
  by_cases h0 : 0 < t.size
  ·obtain ⟨r,wd,hdl,h1,h2,hst⟩:=trail_step gL t h0
   have HL:=Lib.hid (eLast_any t wr ((HE1.out.below hb).tabs) h0 (by omega))
   rw [hdl] at HL
   have HG:=Lib.hid (fun W (h : Below w1.heap.size w1 W)=>wGet_any p linesD r W (HD.out.below h) linesOk.1 linesOk.2.1)
   obtain ⟨c,Hc⟩ : ∃ c,Hid (linesD.get (r : Int) = c):=⟨_,Lib.hid rfl⟩
   have HS:=Lib.hid hst
   have hgc : gL (r : Int) = c:=Hc.out
   rw [hgc] at HS
   rw [Hc.out] at HG
   clear hst hdl hgc
   have e1 : (t.size : Int) - (wd : Int) = ((t.size - wd : Nat) : Int):=by omega
   have e2 : t.size - wd≤t.size:=by omega
   have e3 : ((t.size - wd : Nat) : Int)≤(t.size : Int):=by omega
   have hsm : (t.extract 0 (t.size - wd)).size = t.size - wd:=by rw [ByteArray.size_extract];omega
   cases h4 : (((c : Nat) : Int) == 4) with
   | true =>
    have HT' : Hid (trailP gL (t.extract 0 (t.size - wd)) = trailP gL s):=Lib.hid (by rw [← HTr.out,HS.out,if_pos (by unfold lBl;rw [h4];simp)])
    go_wp2_with fail
    refine HL.out.mono ?_
    rintro e w4 ⟨rfl,hb4⟩
    have hb4':=below_step hb hb4 hb.size
    go_wp2_with fail
    refine (HG.out _ hb4').mono ?_
    rintro e w5 ⟨rfl,hb5⟩
    have hb5':=below_step hb4' hb5 hb4'.size
    replace hb5:=hb4.trans (hb5.mono hb4.size)
    go_wp2
    go_roundw
    case rel=>exact ⟨t.extract 0 (t.size - wd),by first | rfl | trivial,by rw [hsm];omega,HT',hb5'⟩
    case measure=>simp only [txtSize,hsm];omega
   | false =>
    cases h5 : (((c : Nat) : Int) == 1) with
    | true =>
     have HT' : Hid (trailP gL (t.extract 0 (t.size - wd)) = trailP gL s):=Lib.hid (by rw [← HTr.out,HS.out,if_pos (by unfold lBl;rw [h5];simp)])
     go_wp2_with fail
     refine HL.out.mono ?_
     rintro e w4 ⟨rfl,hb4⟩
     have hb4':=below_step hb hb4 hb.size
     go_wp2_with fail
     refine (HG.out _ hb4').mono ?_
     rintro e w5 ⟨rfl,hb5⟩
     have hb5':=below_step hb4' hb5 hb4'.size
     replace hb5:=hb4.trans (hb5.mono hb4.size)
     go_wp2
     go_roundw
     case rel=>exact ⟨t.extract 0 (t.size - wd),by first | rfl | trivial,by rw [hsm];omega,HT',hb5'⟩
     case measure=>simp only [txtSize,hsm];omega
    | false =>
     cases h6 : (((c : Nat) : Int) == 2) with
     | true =>
      have HT' : Hid (trailP gL (t.extract 0 (t.size - wd)) = trailP gL s):=Lib.hid (by rw [← HTr.out,HS.out,if_pos (by unfold lBl;rw [h6];simp)])
      go_wp2_with fail
      refine HL.out.mono ?_
      rintro e w4 ⟨rfl,hb4⟩
      have hb4':=below_step hb hb4 hb.size
      go_wp2_with fail
      refine (HG.out _ hb4').mono ?_
      rintro e w5 ⟨rfl,hb5⟩
      have hb5':=below_step hb4' hb5 hb4'.size
      replace hb5:=hb4.trans (hb5.mono hb4.size)
      go_wp2
      go_roundw
      case rel=>exact ⟨t.extract 0 (t.size - wd),by first | rfl | trivial,by rw [hsm];omega,HT',hb5'⟩
      case measure=>simp only [txtSize,hsm];omega
     | false =>
      cases h7 : (((c : Nat) : Int) == 3) with
      | true =>
       have HT' : Hid (trailP gL (t.extract 0 (t.size - wd)) = trailP gL s):=Lib.hid (by rw [← HTr.out,HS.out,if_pos (by unfold lBl;rw [h7];simp)])
       go_wp2_with fail
       refine HL.out.mono ?_
       rintro e w4 ⟨rfl,hb4⟩
       have hb4':=below_step hb hb4 hb.size
       go_wp2_with fail
       refine (HG.out _ hb4').mono ?_
       rintro e w5 ⟨rfl,hb5⟩
       have hb5':=below_step hb4' hb5 hb4'.size
       replace hb5:=hb4.trans (hb5.mono hb4.size)
       go_wp2
       go_roundw
       case rel=>exact ⟨t.extract 0 (t.size - wd),by first | rfl | trivial,by rw [hsm];omega,HT',hb5'⟩
       case measure=>simp only [txtSize,hsm];omega
      | false =>
       cases h8 : (((c : Nat) : Int) == 5) with
       | true =>
        have HT' : Hid (trailP gL (t.extract 0 (t.size - wd)) = trailP gL s):=Lib.hid (by rw [← HTr.out,HS.out,if_pos (by unfold lBl;rw [h8];simp)])
        go_wp2_with fail
        refine HL.out.mono ?_
        rintro e w4 ⟨rfl,hb4⟩
        have hb4':=below_step hb hb4 hb.size
        go_wp2_with fail
        refine (HG.out _ hb4').mono ?_
        rintro e w5 ⟨rfl,hb5⟩
        have hb5':=below_step hb4' hb5 hb4'.size
        replace hb5:=hb4.trans (hb5.mono hb4.size)
        go_wp2
        go_roundw
        case rel=>exact ⟨t.extract 0 (t.size - wd),by first | rfl | trivial,by rw [hsm];omega,HT',hb5'⟩
        case measure=>simp only [txtSize,hsm];omega
       | false =>
        have HV : Hid (trailP gL s = t.size):=Lib.hid (by rw [← HTr.out,HS.out,if_neg (by unfold lBl;rw [h4,h5,h6,h7,h8];simp)])
        go_wp2_with fail
        refine HL.out.mono ?_
        rintro e w4 ⟨rfl,hb4⟩
        have hb4':=below_step hb hb4 hb.size
        go_wp2_with fail
        refine (HG.out _ hb4').mono ?_
        rintro e w5 ⟨rfl,hb5⟩
        have hb5':=below_step hb4' hb5 hb4'.size
        replace hb5:=hb4.trans (hb5.mono hb4.size)
        go_wp2
        try rw [Exit.noGoto_ret]
        go_ret
        exact ⟨by rw [HV.out];rfl,below_step hbb hb5 hbb.size⟩
  ·have HV : Hid (trailP gL s = t.size):=Lib.hid (by rw [← HTr.out,trail_empty h0])
   have h0' : ¬ (0 : Int) < (t.size : Int):=by omega
   go_wp2
   try rw [Exit.noGoto_ret]
   go_ret
   exact ⟨by rw [HV.out];rfl,hbb⟩
end Go.Proofs.YtdngkienloligaaGreatDoor
/- -/
namespace Go.Proofs.YtdngkienloligaaGreatDoor
open Go.RowKit Go.Maps
set_option maxRecDepth 100000 in
set_option maxHeartbeats 4000000 in
theorem vName_any (l : List UInt8) (w : World) (hs : l.length≤9223372036854775807) : Calls Tryz.prog 226 #[.string (bytesOf l)] w fun e w'=>e = .returned (.bool (nameL l))∧Below w.heap.size w w':=by
 have hsz : (bytesOf l).size = l.length:=bytesOf_size l
 go_enter Tryz.func226,Tryz.ntmps226
 go_wp2
 have hbw : Below w.heap.size w w:=Below.refl _ _
 go_loop [3] (fun i=>∃ k : Nat,i = .int .i64 k∧k≤l.length∧Hid (nameU (l.take k) = true)) (fun i=>l.length - (intOf i).toNat)
 case atStart=>exact ⟨0,rfl,by omega,rfl⟩
 case round =>
  obtain ⟨k,rfl,hk,Hm⟩:=hrel
  by_cases hlt : k < l.length
  ·have hkl : k < (bytesOf l).size:=by rw [hsz];exact hlt
   have hc:=index_at (bytesOf l) k k rfl hkl
   obtain ⟨c,hce⟩ : ∃ c,(bytesOf l)[k]'hkl = c:=⟨_,rfl⟩
   have Hc : Hid (l[k]? = some c):=Lib.hid (by have:=get_list hkl;rw [bytesOf_list,hce] at this;exact this)
   have hcc : (((bytesOf l)[k]'hkl).toNat : Int) = (c.toNat : Int):=by rw [hce]
   rw [hce] at hc
   clear hce
   have HN:=Lib.hid (nameU_next Hc.out Hm.out)
   have HE : Hid (nameU (l.take (k+1)) = false→nameL l = false):=Lib.hid (fun h=>by rw [nameL_eq,nameU_take h,Bool.false_and])
   have hc0 : 0≤(c.toNat : Int):=by omega
   have hc255 : (c.toNat : Int)≤255:=by have:=c.toNat_lt;omega
   have HLT : Hid ((65≤(c.toNat : Int)∧(c.toNat : Int)≤90)∨(97≤(c.toNat : Int)∧(c.toNat : Int)≤122)→letB c = true∧partB c = true):=Lib.hid (fun h=>⟨letB_t (by omega),partB_t (by omega)⟩)
   have HLF : Hid (¬ ((65≤(c.toNat : Int)∧(c.toNat : Int)≤90)∨(97≤(c.toNat : Int)∧(c.toNat : Int)≤122))→letB c = false):=Lib.hid (fun h=>letB_f (by omega))
   have HPT : Hid ((48≤(c.toNat : Int)∧(c.toNat : Int)≤57)∨(c.toNat : Int) = 95→partB c = true):=Lib.hid (fun h=>partB_t (by omega))
   have HPF : Hid (¬ ((65≤(c.toNat : Int)∧(c.toNat : Int)≤90)∨(97≤(c.toNat : Int)∧(c.toNat : Int)≤122)∨(48≤(c.toNat : Int)∧(c.toNat : Int)≤57)∨(c.toNat : Int) = 95)→partB c = false):=Lib.hid (fun h=>partB_f (by omega))
   generalize (c.toNat : Int) = z at hc hcc hc0 hc255 HLT HLF HPT HPF
   rcases Nat.eq_zero_or_pos k with rfl | h0
   ·rcases (by omega : (65≤z∧z≤90)∨(97≤z∧z≤122)∨(z < 65∨(90 < z∧z < 97)∨122 < z)) with ⟨hq,hq'⟩ | ⟨hq,hq'⟩ | hq
    iterate 2
     ·have HV : Hid (nameU (l.take (0+1)) = true):=Lib.hid (by rw [HN.out,if_pos rfl];exact (HLT.out (by omega)).1)
      clear HLT HLF HPT HPF HN HE
      try first | (have d65 : decide (65≤z) = true:=decide_eq_true (by omega)) | (have d65 : decide (65≤z) = false:=decide_eq_false (by omega))
      try first | (have d90 : decide (z≤90) = true:=decide_eq_true (by omega)) | (have d90 : decide (z≤90) = false:=decide_eq_false (by omega))
      try first | (have d97 : decide (97≤z) = true:=decide_eq_true (by omega)) | (have d97 : decide (97≤z) = false:=decide_eq_false (by omega))
      try first | (have d122 : decide (z≤122) = true:=decide_eq_true (by omega)) | (have d122 : decide (z≤122) = false:=decide_eq_false (by omega))
      try first | (have d48 : decide (z < 48) = true:=decide_eq_true (by omega)) | (have d48 : decide (z < 48) = false:=decide_eq_false (by omega))
      try first | (have d57 : decide (57 < z) = true:=decide_eq_true (by omega)) | (have d57 : decide (57 < z) = false:=decide_eq_false (by omega))
      try first | (have d95 : (z != 95) = true:=bne_iff_ne.2 (by omega)) | (have d95 : (z != 95) = false:=by rw [bne_eq_false_iff_eq];omega)
      go_wp2
      refine ⟨⟨0+1,by go_num,by omega,HV⟩,?_⟩
      simp [intOf];omega
    ·have HV : Hid (nameL l = false):=Lib.hid (HE.out (by rw [HN.out,if_pos rfl];exact HLF.out (by omega)))
     clear HLT HLF HPT HPF HN HE
     rcases hq with hq | ⟨hq,hq'⟩ | hq
     all_goals
      try first | (have d65 : decide (65≤z) = true:=decide_eq_true (by omega)) | (have d65 : decide (65≤z) = false:=decide_eq_false (by omega))
      try first | (have d90 : decide (z≤90) = true:=decide_eq_true (by omega)) | (have d90 : decide (z≤90) = false:=decide_eq_false (by omega))
      try first | (have d97 : decide (97≤z) = true:=decide_eq_true (by omega)) | (have d97 : decide (97≤z) = false:=decide_eq_false (by omega))
      try first | (have d122 : decide (z≤122) = true:=decide_eq_true (by omega)) | (have d122 : decide (z≤122) = false:=decide_eq_false (by omega))
      try first | (have d48 : decide (z < 48) = true:=decide_eq_true (by omega)) | (have d48 : decide (z < 48) = false:=decide_eq_false (by omega))
      try first | (have d57 : decide (57 < z) = true:=decide_eq_true (by omega)) | (have d57 : decide (57 < z) = false:=decide_eq_false (by omega))
      try first | (have d95 : (z != 95) = true:=bne_iff_ne.2 (by omega)) | (have d95 : (z != 95) = false:=by rw [bne_eq_false_iff_eq];omega)
      go_wp2
      go_ret
      exact ⟨by rw [HV.out];rfl,hbw⟩
   ·have hk0 : ((k : Int) == 0) = false:=beq_eq_false_iff_ne.2 (by omega)
    rcases (by omega : (65≤z∧z≤90)∨(97≤z∧z≤122)∨(48≤z∧z≤57)∨z = 95∨(z < 48∨(57 < z∧z < 65)∨(90 < z∧z < 95)∨z = 96∨122 < z)) with ⟨hq,hq'⟩ | ⟨hq,hq'⟩ | ⟨hq,hq'⟩ | hq | hq
    iterate 4
     ·have HV : Hid (nameU (l.take (k+1)) = true):=Lib.hid (by rw [HN.out,if_neg (by omega)];first | exact (HLT.out (by omega)).2 | exact HPT.out (by omega))
      clear HLT HLF HPT HPF HN HE
      try first | (have d65 : decide (65≤z) = true:=decide_eq_true (by omega)) | (have d65 : decide (65≤z) = false:=decide_eq_false (by omega))
      try first | (have d90 : decide (z≤90) = true:=decide_eq_true (by omega)) | (have d90 : decide (z≤90) = false:=decide_eq_false (by omega))
      try first | (have d97 : decide (97≤z) = true:=decide_eq_true (by omega)) | (have d97 : decide (97≤z) = false:=decide_eq_false (by omega))
      try first | (have d122 : decide (z≤122) = true:=decide_eq_true (by omega)) | (have d122 : decide (z≤122) = false:=decide_eq_false (by omega))
      try first | (have d48 : decide (z < 48) = true:=decide_eq_true (by omega)) | (have d48 : decide (z < 48) = false:=decide_eq_false (by omega))
      try first | (have d57 : decide (57 < z) = true:=decide_eq_true (by omega)) | (have d57 : decide (57 < z) = false:=decide_eq_false (by omega))
      try first | (have d95 : (z != 95) = true:=bne_iff_ne.2 (by omega)) | (have d95 : (z != 95) = false:=by rw [bne_eq_false_iff_eq];omega)
      go_wp2
      refine ⟨⟨k+1,by go_num,by omega,HV⟩,?_⟩
      simp [intOf];omega
    ·have HV : Hid (nameL l = false):=Lib.hid (HE.out (by rw [HN.out,if_neg (by omega)];exact HPF.out (by omega)))
     clear HLT HLF HPT HPF HN HE
     rcases hq with hq | ⟨hq,hq'⟩ | ⟨hq,hq'⟩ | hq | hq
     all_goals
      try first | (have d65 : decide (65≤z) = true:=decide_eq_true (by omega)) | (have d65 : decide (65≤z) = false:=decide_eq_false (by omega))
      try first | (have d90 : decide (z≤90) = true:=decide_eq_true (by omega)) | (have d90 : decide (z≤90) = false:=decide_eq_false (by omega))
      try first | (have d97 : decide (97≤z) = true:=decide_eq_true (by omega)) | (have d97 : decide (97≤z) = false:=decide_eq_false (by omega))
      try first | (have d122 : decide (z≤122) = true:=decide_eq_true (by omega)) | (have d122 : decide (z≤122) = false:=decide_eq_false (by omega))
      try first | (have d48 : decide (z < 48) = true:=decide_eq_true (by omega)) | (have d48 : decide (z < 48) = false:=decide_eq_false (by omega))
      try first | (have d57 : decide (57 < z) = true:=decide_eq_true (by omega)) | (have d57 : decide (57 < z) = false:=decide_eq_false (by omega))
      try first | (have d95 : (z != 95) = true:=bne_iff_ne.2 (by omega)) | (have d95 : (z != 95) = false:=by rw [bne_eq_false_iff_eq];omega)
      go_wp2
      go_ret
      exact ⟨by rw [HV.out];rfl,hbw⟩
  ·have HE : Hid (nameL l = decide (1≤l.length∧l.length≤32)):=Lib.hid (by rw [nameL_eq,show nameU l = true by have:=Hm.out;rwa [List.take_of_length_le (by omega)] at this,Bool.true_and])
   rcases (by omega : l.length = 0∨(1≤l.length∧l.length≤32)∨32 < l.length) with h | ⟨h,h'⟩ | h
   all_goals
    go_wp2
    go_ret
    exact ⟨ret_bool (by rw [HE.out];first | exact (decide_eq_false (by omega)).symm | exact (decide_eq_true (by omega)).symm | (rw [decide_eq_decide];omega)),hbw⟩
end Go.Proofs.YtdngkienloligaaGreatDoor
/- -/
namespace Go.Proofs.YtdngkienloligaaGreatDoor
open Go.RowKit Go.Maps
theorem ret_pair {a b c d : Value} (h1 : a = c) (h2 : b = d) : Ending.returned (.tuple #[a,b]) = .returned (.tuple #[c,d]):=by rw [h1,h2]
set_option maxRecDepth 100000 in
set_option maxHeartbeats 2000000 in
theorem vcut_any (L : List UInt8) (w : World) (hL : L.length≤1000000) :
  Calls Tryz.prog 224 #[.string (bytesOf L)] w fun e w'=>e = .returned (.tuple #[.string (bytesOf (L.take (hashP L))),.int .i64 (fv (findP 59 (L.take (hashP L))))])∧Below w.heap.size w w':=by
 have HIS:=Lib.hid (cutD_is L)
 have hsz : (bytesOf L).size = L.length:=bytesOf_size L
 go_enter Tryz.func224,Tryz.ntmps224
 go_wp2
 go_loopw [4,5] (fun a v wr=>∃ (semi : Option Nat) (i : Nat),a = .int .i64 (fv semi)∧v = .int .i64 i∧i≤L.length∧Hid (CutAt L i semi)∧Below w.heap.size w wr) (fun _ v _=>L.length - (intOf v).toNat)
 case atStart=>exact ⟨none,0,rfl,rfl,by omega,cutAt_first L,Below.refl _ _⟩
 case round =>
  obtain ⟨semi,i,rfl,rfl,hi,HC,hb⟩:=hrel
  by_cases hlt : i < L.length
  ·have HQ:=Lib.hid (sQuoted_any (bytesOf L) i wr (by omega) (by omega))
   have hqq:=quoted_qt (bytesOf L) i (by omega)
   rw [bytesOf_list] at hqq
   have hp : i < (bytesOf L).size:=by omega
   have hix:=index_at (bytesOf L) i i rfl hp
   obtain ⟨x,hx⟩ : ∃ x,(bytesOf L)[i]'hp = x:=⟨_,rfl⟩
   have Hx : Hid (L[i]? = some x):=Lib.hid (by have:=get_list hp;rw [bytesOf_list,hx] at this;exact this)
   have hgi : (((bytesOf L)[i]'hp).toNat : Int) = (x.toNat : Int):=by rw [hx]
   rw [hx] at hix
   clear hx
   cases hq : qtL (L.drop i) with
   | some k =>
    rw [hq] at hqq
    obtain ⟨q1,q2⟩:=hqq
    have HC':=Lib.hid (cutAt_qt HC.out hq)
    have hik : i+k≤L.length:=HC'.out.1
    generalize quotedP (bytesOf L) i = Q at HQ q1 q2
    obtain ⟨r,wd,ok⟩:=Q
    simp only at q1 q2
    subst q1
    have hk3:=(qtL_some hq).1
    clear hq
    go_wp2_with (go_at_call 263;refine HQ.out.mono ?_;rintro e w2 ⟨rfl,hb2⟩)
    go_roundw
    case rel=>exact ⟨semi,i+k,rfl,by go_num,hik,HC',below_step hb hb2 hb.size⟩
    case measure=>simp [intOf];omega
   | none =>
    rw [hq] at hqq
    generalize quotedP (bytesOf L) i = Q at HQ hqq
    obtain ⟨r,wd,ok⟩:=Q
    simp only at hqq
    subst hqq
    have h35 : x = 35 ↔ (x.toNat : Int) = 35:=by have h1 : x = 35 ↔ x.toNat = 35:=u8_eq (n:=35) (by omega);rw [h1];omega
    have h59 : x = 59 ↔ (x.toNat : Int) = 59:=by have h1 : x = 59 ↔ x.toNat = 59:=u8_eq (n:=59) (by omega);rw [h1];omega
    have HH:=Lib.hid (fun h=>cutAt_hash HC.out Hx.out hq (h35.2 h))
    have HS:=Lib.hid (fun h hs=>cutAt_semi HC.out Hx.out hq (h59.2 h) hs)
    have HGo:=Lib.hid (fun (h : ¬ (x.toNat : Int) = 35) (hs : ¬ ((x.toNat : Int) = 59∧semi = none))=>cutAt_go HC.out Hx.out hq (fun k=>h (h35.1 k)) (fun k=>hs ⟨h59.1 k.1,k.2⟩))
    generalize (x.toNat : Int) = z at hix hgi HH HS HGo
    clear h35 h59 hq
    rcases (by omega : z = 35∨z = 59∨(z ≠ 35∧z ≠ 59)) with hz | hz | ⟨hz,hz'⟩
    ·have HE:=HH.out hz
     rw [HIS.out] at HE
     injection HE with HE1 HE2
     have HE1:=Lib.hid HE1
     have HE2:=Lib.hid HE2
     have hzz : (z == 35) = true:=by rw [hz];rfl
     clear hz HH HS HGo
     go_wp2_with (go_at_call 263;refine HQ.out.mono ?_;rintro e w2 ⟨rfl,hb2⟩)
     go_ret2
     have h1:=ext_bytes0 L i
     rw [← HE1.out] at h1
     exact ⟨ret_pair (congrArg Value.string (by first | exact h1 | (rw [HE1.out] at h1 ⊢;exact h1) | rfl)) (congrArg (Value.int .i64) (by rw [HE2.out])),below_step hb hb2 hb.size⟩
    ·have hzz : (z == 35) = false:=by rw [hz];rfl
     have hzy : (z == 59) = true:=by rw [hz];rfl
     cases semi with
     | none =>
      have HC':=Lib.hid (HS.out hz rfl)
      have hfn : decide (fv none < 0) = true:=rfl
      clear hz HH HS HGo
      go_wp2_with (go_at_call 263;refine HQ.out.mono ?_;rintro e w2 ⟨rfl,hb2⟩)
      go_roundw
      case rel=>exact ⟨some i,i+1,rfl,by go_num,by omega,HC',below_step hb hb2 hb.size⟩
      case measure=>simp [intOf];omega
     | some k =>
      have HC':=Lib.hid (HGo.out (by omega) (fun h=>by cases h.2))
      have hfn : decide (fv (some k) < 0) = false:=decide_eq_false (by simp only [fv];omega)
      clear hz HH HS HGo
      go_wp2_with (go_at_call 263;refine HQ.out.mono ?_;rintro e w2 ⟨rfl,hb2⟩)
      go_roundw
      case rel=>exact ⟨some k,i+1,rfl,by go_num,by omega,HC',below_step hb hb2 hb.size⟩
      case measure=>simp [intOf];omega
    ·have hzz : (z == 35) = false:=beq_eq_false_iff_ne.2 hz
     have hzy : (z == 59) = false:=beq_eq_false_iff_ne.2 hz'
     have HC':=Lib.hid (HGo.out hz (fun h=>hz' h.1))
     clear hz hz' HH HS HGo
     go_wp2_with (go_at_call 263;refine HQ.out.mono ?_;rintro e w2 ⟨rfl,hb2⟩)
     go_roundw
     case rel=>exact ⟨semi,i+1,rfl,by go_num,by omega,HC',below_step hb hb2 hb.size⟩
     case measure=>simp [intOf];omega
  ·have HE:=cutAt_end HC.out hlt
   rw [HIS.out] at HE
   injection HE with HE1 HE2
   have HE1:=Lib.hid HE1
   have HE2:=Lib.hid HE2
   go_wp2
   go_ret2
   exact ⟨ret_pair (congrArg Value.string (by rw [HE1.out,List.take_length];try rfl)) (by rw [HE2.out];try rfl),hb⟩
end Go.Proofs.YtdngkienloligaaGreatDoor
/- -/
namespace Go.Proofs.YtdngkienloligaaGreatDoor
open Go.RowKit Go.Maps
def hitR (x y : Int × Int) : Bool:=decide (x.1≤y.2) && decide (y.1≤x.2)
theorem meetB_any (a b : List (Int × Int)) : meetB a b = a.any fun x=>b.any fun y=>hitR x y:=rfl
theorem any_next {α : Type} {l : List α} {i : Nat} {x : α} {f : α→Bool} (h : (l.take i).any f = false) (hx : l[i]? = some x) (hf : f x = false) : (l.take (i+1)).any f = false:=by
 rw [List.take_add_one,hx];simp [List.any_append,h,hf]
theorem any_hit {α : Type} {l : List α} {i : Nat} {x : α} {f : α→Bool} (hx : l[i]? = some x) (hf : f x = true) : l.any f = true:=List.any_eq_true.2 ⟨x,List.mem_of_getElem? hx,hf⟩
theorem any_all {α : Type} {l : List α} {i : Nat} {f : α→Bool} (h : (l.take i).any f = false) (hi : ¬ i < l.length) : l.any f = false:=by rwa [List.take_of_length_le (by omega)] at h
set_option maxRecDepth 100000 in
set_option maxHeartbeats 2000000 in
theorem vmeet_any (A B : Option Addr) (n c m e : Nat) (l q : List (Int × Int)) (w : World) (hA : Rd w 2 A (l.map encR)) (hB : Rd w 2 B (q.map encR)) (hl : l.length = n) (hq : q.length = m) (hn : n≤4000000) (hm : m≤4000000) :
  Calls Tryz.prog 230 #[.slice A n c,.slice B m e] w fun e w'=>e = .returned (.bool (meetB l q))∧∃ k,w' = w.drewN k:=by
 have Hl:=Lib.hid hl
 have Hq:=Lib.hid hq
 have HMB:=Lib.hid (meetB_any l q)
 go_enter Tryz.func230,Tryz.ntmps230
 go_wp2
 go_loopw [5] (fun v wr=>∃ i k : Nat,v = .int .i64 i∧i≤n∧Hid ((l.take i).any (fun x=>q.any fun y=>hitR x y) = false)∧wr = w.drewN k) (fun v _=>n - (intOf v).toNat)
 case atStart=>exact ⟨0,0,rfl,by omega,by simp [Hid],rfl⟩
 case round =>
  obtain ⟨i,k,rfl,hi,HI,rfl⟩:=hrel
  by_cases hlt : i < n
  ·obtain ⟨bA,oA,x1,x2,rfl,Hx,hx1,hx2⟩:=hA.atR (k:=i) (by have:=Hl.out;omega)
   have hdi : decide (i < n) = true:=decide_eq_true hlt
   go_wp2_with fail
   go_loopw [6] (fun v wr=>∃ j k2 : Nat,v = .int .i64 j∧j≤m∧Hid ((q.take j).any (fun y=>hitR (x1,x2) y) = false)∧wr = w.drewN k2) (fun v _=>m - (intOf v).toNat)
   case atStart=>exact ⟨0,k,rfl,by omega,by simp [Hid],rfl⟩
   case round =>
    obtain ⟨j,k2,rfl,hj,HJ,rfl⟩:=hrel
    by_cases hltj : j < m
    ·obtain ⟨bB,oB,y1,y2,rfl,Hy,hy1,hy2⟩:=hB.atR (k:=j) (by have:=Hq.out;omega)
     rcases (by omega : ¬ x1≤y2∨(x1≤y2∧¬ y1≤x2)∨(x1≤y2∧y1≤x2)) with h1 | ⟨h1,h2⟩ | ⟨h1,h2⟩
     ·have HJ':=Lib.hid (any_next HJ.out Hy.out (show hitR (x1,x2) (y1,y2) = false by simp [hitR,h1]))
      have hd1 : decide (x1≤y2) = false:=decide_eq_false h1
      go_wp2_with fail
      go_quiet (fail)
      go_wp2
      go_roundw
      case rel=>exact ⟨j+1,_,by go_num,by omega,HJ',by first | rfl | exact World.drewN_drewN _ _ _⟩
      case measure=>simp [intOf];omega
     ·have HJ':=Lib.hid (any_next HJ.out Hy.out (show hitR (x1,x2) (y1,y2) = false by simp [hitR,h2]))
      have hd1 : decide (x1≤y2) = true:=decide_eq_true h1
      have hd2 : decide (y1≤x2) = false:=decide_eq_false h2
      go_wp2_with fail
      go_quiet (fail)
      go_wp2
      go_roundw
      case rel=>exact ⟨j+1,_,by go_num,by omega,HJ',by first | rfl | exact World.drewN_drewN _ _ _⟩
      case measure=>simp [intOf];omega
     ·have HE : Hid (meetB l q = true):=Lib.hid (by rw [HMB.out];exact any_hit Hx.out (any_hit Hy.out (show hitR (x1,x2) (y1,y2) = true by simp [hitR,h1,h2])))
      have hd1 : decide (x1≤y2) = true:=decide_eq_true h1
      have hd2 : decide (y1≤x2) = true:=decide_eq_true h2
      go_wp2_with fail
      go_quiet (fail)
      go_wp2
      go_ret
      exact ⟨by rw [HE.out];rfl,_,by first | rfl | exact World.drewN_drewN _ _ _⟩
    ·have HI':=Lib.hid (any_next HI.out Hx.out (any_all HJ.out (show ¬ j < q.length by have:=Hq.out;omega)))
     go_wp2
     go_roundw
     case rel=>exact ⟨i+1,k2,by go_num,by omega,HI',rfl⟩
     case measure=>simp [intOf];omega
  ·have HE : Hid (meetB l q = false):=Lib.hid (by rw [HMB.out];exact any_all HI.out (show ¬ i < l.length by have:=Hl.out;omega))
   go_wp2
   go_ret
   exact ⟨by rw [HE.out];rfl,k,rfl⟩
end Go.Proofs.YtdngkienloligaaGreatDoor
/- -/
namespace Go.Proofs.YtdngkienloligaaGreatDoor
open Go.RowKit Go.Maps
structure Byt (w : World) (b : Nat) (L : List UInt8) : Prop where
 cell : ∀ j (h : j < L.length),w.cell? ⟨b,j,none⟩ = some (.int .u8 ((L[j]'h).toNat : Int))
 free : ∀ j,j < L.length→w.frozen? ⟨b,j,none⟩ = false
theorem Byt.set_ {w : World} {b : Nat} {L : List UInt8} (h : Byt w b L) {i : Nat} (hi : i < L.length) (c : UInt8) (v : Int) (hv : v = (c.toNat : Int)) : Byt (w.setCell ⟨b,i,none⟩ (.int .u8 v)) b (L.set i c):=by
 subst hv
 refine ⟨fun j hj=>?_,fun j hj=>?_⟩
 ·rw [List.length_set] at hj
  by_cases e : i = j
  ·subst e
   rw [World.cell?_setCell_same _ _ _ (h.cell i hi)];simp
  ·rw [World.cell?_setCell_other _ _ _ _ (fun k=>e (by injection k)),h.cell j hj];simp [List.getElem_set_ne e]
 ·rw [List.length_set] at hj
  rw [World.frozen?_setCell];exact h.free j hj
theorem byt_world (w : World) (l : List UInt8) : Byt (Lib.bytesWorld w 5 (bytesOf l)) w.heap.size l:=by
 refine ⟨fun j hj=>?_,fun j hj=>?_⟩
 ·have h1:=Lib.bytesWorld_cell w 5 (bytesOf l) j (by rw [bytesOf_size];exact hj)
  rw [bytesOf_list,List.getD_eq_getElem?_getD,List.getElem?_eq_getElem hj] at h1
  exact h1
 ·unfold World.frozen?
  rw [Lib.bytesWorld_at_new]
  have hc : l.length≤(Lib.bytesCells w 5 (bytesOf l)).size:=by
   simp [Lib.bytesCells]
   rw [bytesOf_size];omega
  simp;omega
set_option maxRecDepth 100000 in
set_option maxHeartbeats 2000000 in
theorem vspaced_any (l : List UInt8) (w : World) (hs : l.length≤1000000) : Calls Tryz.prog 228 #[.string (bytesOf l)] w fun e w'=>e = .returned (.string (bytesOf (spcL l)))∧Below w.heap.size w w':=by
 have hcv:=fun W=>Lib.run_convert_string_bytes (P:=Tryz.prog) W 9 146 5 (bytesOf l) Tryz.underlying9 Tryz.underlying146 Tryz.underlying5
 have hsz : (bytesOf l).size = l.length:=bytesOf_size l
 have Hlen : Hid ((spcL l).length = l.length):=Lib.hid (by unfold spcL;rw [List.length_map])
 go_enter Tryz.func228,Tryz.ntmps228
 go_wp2
 have hby:=byt_world w l
 have hbw:=below_bytesWorld w 5 (bytesOf l)
 generalize Lib.bytesWorld w 5 (bytesOf l) = w1 at hby hbw ⊢
 clear hcv
 go_loopw [4] (fun v wr=>∃ i : Nat,v = .int .i64 i∧i≤l.length∧Byt wr w.heap.size ((spcL l).take i++l.drop i)∧Below w.heap.size w wr) (fun v _=>l.length - (intOf v).toNat)
 case atStart=>exact ⟨0,rfl,by omega,by simpa using hby,hbw⟩
 case round =>
  clear hby hbw
  obtain ⟨i,rfl,hi,hB,hb⟩:=hrel
  have hll : ((spcL l).take i++l.drop i).length = l.length:=by rw [List.length_append,List.length_take,List.length_drop,Hlen.out];omega
  by_cases hlt : i < l.length
  ·obtain ⟨x,Hx⟩ : ∃ x,Hid (l[i]? = some x):=⟨_,Lib.hid (List.getElem?_eq_getElem hlt)⟩
   have hgx : ((spcL l).take i++l.drop i)[i]'(by omega) = x:=by
    have h1 : ((spcL l).take i++l.drop i)[i]? = some x:=by
     rw [List.getElem?_append_right (by rw [List.length_take,Hlen.out];omega),List.length_take,Hlen.out,Nat.min_eq_left (by omega),Nat.sub_self,List.getElem?_drop];exact Hx.out
    obtain ⟨_,h2⟩:=List.getElem?_eq_some_iff.1 h1
    exact h2
   have hc:=hB.cell i (by omega)
   rw [hgx] at hc
   have hf:=hB.free i (by omega)
   have hnext : ∀ y,y = (if x = 9 then 32 else x)→((spcL l).take i++l.drop i).set i y = (spcL l).take (i+1)++l.drop (i+1):=fun y hy=>by
    have h1 : (spcL l)[i]? = some y:=by unfold spcL;rw [List.getElem?_map,Hx.out,hy];rfl
    rw [drop_at Hx.out,List.take_add_one,h1]
    have h2 : ((spcL l).take i).length = i:=by rw [List.length_take,Hlen.out];omega
    have h3:=set_mid ((spcL l).take i) x y (l.drop (i+1))
    rw [h2] at h3
    rw [h3];simp
   by_cases hx9 : x = 9
   ·have hz : ((x.toNat : Int) == 9) = true:=by rw [hx9];rfl
    have HN:=Lib.hid (hnext 32 (by rw [if_pos hx9]))
    have HB:=Lib.hid (hB.set_ (i:=i) (by omega) 32 32 rfl)
    rw [HN.out] at HB
    clear hnext hx9 hgx
    go_wp2
    go_roundw
    case rel=>exact ⟨i+1,by go_num,by omega,HB.out,hb.setCell (p:=⟨w.heap.size,i,none⟩) (Nat.le_refl _) _⟩
    case measure=>simp [intOf];omega
   ·have hz : ((x.toNat : Int) == 9) = false:=beq_eq_false_iff_ne.2 (fun e=>hx9 ((u8_eq (n:=9) (by omega)).2 (by omega)))
    have HN:=Lib.hid (hnext x (by rw [if_neg hx9]))
    have hsame : ((spcL l).take i++l.drop i).set i x = (spcL l).take i++l.drop i:=by
     conv=>lhs;rw [← hgx]
     exact List.set_getElem_self _
    rw [hsame] at HN
    clear hnext hx9 hgx hsame
    go_wp2
    go_roundw
    case rel=>exact ⟨i+1,by go_num,by omega,by rw [← HN.out];exact hB,hb⟩
    case measure=>simp [intOf];omega
  ·have HE : Hid ((spcL l).take i++l.drop i = spcL l):=Lib.hid (by rw [List.take_of_length_le (by rw [Hlen.out];omega),List.drop_of_length_le (by omega),List.append_nil])
   rw [HE.out] at hB
   have hcb:=fun c=>run_convert_bytes_back (P:=Tryz.prog) wr 146 9 5 ⟨w.heap.size,0,none⟩ c (spcL l) Tryz.underlying146 Tryz.underlying5 Tryz.underlying9 (fun k hk=>by
    have e : (⟨w.heap.size,0,none⟩ : Addr).add k = ⟨w.heap.size,k,none⟩:=by
     unfold Addr.add
     split
     ·rename_i h0;rw [h0]
     ·simp
    rw [e];exact hB.cell k hk)
   rw [Hlen.out] at hcb
   go_wp2
   go_ret
   exact ⟨rfl,hb⟩
theorem take_sub {l : List UInt8} {a b : Nat} : (bytesOf l).extract a b = bytesOf ((l.drop a).take (b - a)):=ext_bytes2 l a b
set_option maxRecDepth 100000 in
set_option maxHeartbeats 2000000 in
theorem vLines_any (t : List UInt8) (w : World) (ht : t.length≤1000000) :
  Calls Tryz.prog 184 #[.string (bytesOf t)] w fun e w'=>∃ A n c,e = .returned (.slice A n c)∧Own w' w.heap.size 9 1 A n c ((splitL t).map encNm)∧Below w.heap.size w w':=by
 obtain ⟨i0,hi0,hz0,hz1,hz2⟩:=info_parts info_cloneS
 have hsz : (bytesOf t).size = t.length:=bytesOf_size t
 go_enter Tryz.func184,Tryz.ntmps184
 go_wp2
 go_loopw [3,4,5] (fun a f v wr=>∃ (i frm : Nat) (done : List (List UInt8)) (A : Option Addr) (n c : Nat),a = .slice A n c∧f = .int .i64 frm∧v = .int .i64 i∧i≤t.length∧n≤i∧frm≤i∧Hid (LinesAt t i frm done)∧Own wr w.heap.size 9 1 A n c (done.map encNm)∧Below w.heap.size w wr) (fun _ _ v _=>t.length - (intOf v).toNat)
 case atStart=>exact ⟨0,0,[],none,0,0,rfl,rfl,rfl,by omega,by omega,by omega,LinesAt.start t,Own.nil_ _ _ _ _,Below.refl _ _⟩
 case round =>
  obtain ⟨i,frm,done,A,n,c,rfl,rfl,rfl,hi,hni,hfi,HL,ho,hb⟩:=hrel
  have hszr:=hb.size
  by_cases hlt : i < t.length
  ·have hp : i < (bytesOf t).size:=by omega
   have hix:=index_at (bytesOf t) i i rfl hp
   obtain ⟨x,hx⟩ : ∃ x,(bytesOf t)[i]'hp = x:=⟨_,rfl⟩
   have Hx : Hid (t[i]? = some x):=Lib.hid (by have:=get_list hp;rw [bytesOf_list,hx] at this;exact this)
   have hgi : (((bytesOf t)[i]'hp).toNat : Int) = (x.toNat : Int):=by rw [hx]
   rw [hx] at hix
   clear hx
   by_cases hx10 : x = 10
   ·have hz : ((x.toNat : Int) == 10) = true:=by rw [hx10];rfl
    have HL':=Lib.hid (LinesAt.line HL.out (by rw [Hx.out,hx10]))
    have HX:=Lib.hid (take_sub (l:=t) (a:=frm) (b:=i))
    clear hx10
    go_wp2_with (at_builtin;go_must (refine wpList_app rfl (.tmp 16) (.tmp 21) _ rfl w.heap.size 9 i0 _ 1 16 Tryz.underlying108 hi0 hz0 hz1 hz2 rfl (by omega) A n c (done.map encNm) rfl (ho.alloc _) _ 1 1 [encNm ((t.drop frm).take (i - frm))] rfl rfl (Rd.newAt (by simp) (by simp [encNm,HX.out])) (encNm_ok [(t.drop frm).take (i - frm)]) (by unfold maxLen;omega) (by omega) (by simp;omega) ?_);intro A3 c3 w3 ho3 hg3 hA3;have hb3:=below_app (hb.alloc (by omega) _) hg3 (by simp;omega) (fun a ha=>(ho.lt a ha).1);clear hg3)
    have Ho3 : Own w3 w.heap.size 9 1 A3 (n+1) c3 ((done++[(t.drop frm).take (i - frm)]).map encNm):=by rw [List.map_append];exact ho3
    clear ho3
    go_roundw
    case rel=>exact ⟨i+1,i+1,_,A3,n+1,c3,rfl,by go_num,by go_num,by omega,by omega,by omega,HL',Ho3,hb3⟩
    case measure=>simp [intOf];omega
   ·have hz : ((x.toNat : Int) == 10) = false:=beq_eq_false_iff_ne.2 (fun e=>hx10 ((u8_eq (n:=10) (by omega)).2 (by omega)))
    have HL':=Lib.hid (LinesAt.byte HL.out Hx.out hx10)
    clear hx10
    go_wp2
    go_roundw
    case rel=>exact ⟨i+1,frm,done,A,n,c,rfl,rfl,by go_num,by omega,by omega,by omega,HL',ho,hb⟩
    case measure=>simp [intOf];omega
  ·obtain rfl : i = t.length:=by omega
   have HE:=Lib.hid (LinesAt.done HL.out)
   have HX:=Lib.hid (ext_bytes t frm)
   rw [hsz] at HX
   go_wp2_with (at_builtin;go_must (refine wpList_app rfl (.tmp 25) (.tmp 29) _ rfl w.heap.size 9 i0 _ 1 16 Tryz.underlying108 hi0 hz0 hz1 hz2 rfl (by omega) A n c (done.map encNm) rfl (ho.alloc _) _ 1 1 [encNm (t.drop frm)] rfl rfl (Rd.newAt (by simp) (by simp [encNm,HX.out])) (encNm_ok [t.drop frm]) (by unfold maxLen;omega) (by omega) (by simp;omega) ?_);intro A3 c3 w3 ho3 hg3 hA3;have hb3:=below_app (hb.alloc (by omega) _) hg3 (by simp;omega) (fun a ha=>(ho.lt a ha).1);clear hg3)
   go_ret
   exact ⟨A3,n+1,c3,rfl,by rw [HE.out,List.map_append];exact ho3,hb3⟩
end Go.Proofs.YtdngkienloligaaGreatDoor
/- -/
namespace Go.Proofs.YtdngkienloligaaGreatDoor
end Go.Proofs.YtdngkienloligaaGreatDoor
/- -/
namespace Go.Proofs.YtdngkienloligaaGreatDoor
def toI (c : List Nat) : List Int:=c.map fun (x : Nat)=>(x : Int)
theorem toI_get (c : List Nat) (i : Nat) : (toI c).getD i 0 = ((c.getD i 0 : Nat) : Int):=by
 unfold toI
 rw [List.getD_eq_getElem?_getD,List.getD_eq_getElem?_getD,List.getElem?_map]
 cases c[i]? <;> rfl
theorem ahead_succ {c : List Nat} {n : Nat} (h : n < c.length) : (c.take (n+1)).reverse = c.getD n 0 :: (c.take n).reverse:=by
 rw [List.take_add_one,List.getElem?_eq_getElem h,List.reverse_append,List.getD_eq_getElem?_getD,List.getElem?_eq_getElem h];rfl
def tests : List RB:=[
 ⟨false,eat [.one [1]],eat [.one [2]]⟩,
 ⟨true,eat [.one [1,2,3]],eat []⟩,
 ⟨false,eat [],eat [.one [13]]⟩,
 ⟨false,eat [.many [13],.one [9]],eat [.one [8]]⟩,
 ⟨false,eat [.many [13],.one [9],.many [13],.one [6,5]],eat [.one [6]]⟩,
 ⟨false,eat [.many [4,13],.many [11,13],.one [9]],eat [.many [0,4,8,11,12,13],.one [5]]⟩,
 ⟨false,eat [.many [4,13],.many [11,13],.one [9,10]],eat [.one [12,9,10]]⟩,
 ⟨false,eat [.many [11,13],.one [9,10]],eat [.one [11,4,3,1,2]]⟩,
 ⟨false,eat [.many [4,13],.many [11,13],.one [9,10]],eat [.one [4,3,1,2]]⟩,
 ⟨true,eat [.many [4,13],.many [11,13],.one [9,10]],eat []⟩]
end Go.Proofs.YtdngkienloligaaGreatDoor
/- -/
namespace Go.Proofs.YtdngkienloligaaGreatDoor
def skH (hs r : List Nat) : List Nat:=r.dropWhile fun x=>hs.contains x
def regR (hs : List Nat) (k : Nat) : List Nat→Nat
 | []=>0
 | x :: r=>if hs.contains x then regR hs k r else if x = k then regR hs k r+1 else 0
theorem regR_drop (hs : List Nat) (k : Nat) : ∀ r,regR hs k r = match skH hs r with | []=>0 | x :: t=>if x = k then regR hs k t+1 else 0
 | []=>rfl
 | x :: r=>by
  unfold skH
  rw [regR,List.dropWhile_cons]
  split
  ·exact regR_drop hs k r
  ·rfl
theorem drop_head {P : Nat→Bool} : ∀ {r : List Nat} {x : Nat} {t : List Nat},r.dropWhile P = x :: t→P x = false
 | [],_,_,h=>by simp at h
 | y :: r,x,t,h=>by
  rw [List.dropWhile_cons] at h
  split at h
  ·exact drop_head h
  ·rename_i hy
   injection h with h1 _
   subst h1
   exact Bool.eq_false_iff.2 hy
theorem count_none {hs : List Nat} {k : Nat} (hk : k ∉ hs) {u : List Nat} (h : ∀ x ∈ u,x ∈ hs) : u.count k = 0:=List.count_eq_zero.2 fun hm=>hk (h k hm)
def pairQ (Hp : Pat) (k : Nat) : Pat:=.node 2 [] [setQ k,Hp,setQ k,Hp]
theorem pair_iff {hs : List Nat} {Hp : Pat} (hH : ∀ u,Lang Hp u ↔ ∀ x ∈ u,x ∈ hs) (k : Nat) (u : List Nat) : Lang (pairQ Hp k) u ↔ ∃ h1 h2,u = k :: (h1++k :: h2)∧(∀ x ∈ h1,x ∈ hs)∧∀ x ∈ h2,x ∈ hs:=by
 unfold pairQ
 rw [lang_then]
 simp only [LangT,setQ,lang_set,One,hH]
 constructor
 ·rintro ⟨_,_,rfl,⟨y,rfl,hy⟩,h1,_,rfl,g1,_,_,rfl,⟨z,rfl,hz⟩,h2,_,rfl,g2,rfl⟩
  have hy : y = k:=by simpa using hy
  have hz : z = k:=by simpa using hz
  rw [hy,hz]
  exact ⟨h1,h2,by simp,g1,g2⟩
 ·rintro ⟨h1,h2,rfl,g1,g2⟩
  exact ⟨[k],h1++k :: h2,rfl,⟨k,rfl,by simp⟩,h1,k :: h2,rfl,g1,[k],h2,rfl,⟨k,rfl,by simp⟩,h2,[],by simp,g2,rfl⟩
theorem odd_go {hs : List Nat} {Hp : Pat} {k : Nat} (hk : k ∉ hs) (hH : ∀ u,Lang Hp u ↔ ∀ x ∈ u,x ∈ hs) : ∀ (z : Nat) (v : List Nat),v.length≤z→(∀ x ∈ v,x ∈ hs∨x = k)→v.count k % 2 = 1→(∀ x r,v = x :: r→x = k)→∃ s h,v = s++k :: h∧Star (Lang (pairQ Hp k)) s∧∀ x ∈ h,x ∈ hs
 | z,[],_,_,hc,_=>by simp at hc
 | 0,x :: t,hz,_,_,_=>by simp at hz
 | z+1,x :: t,hz,hv,hc,hh=>by
  have hx:=hh x t rfl
  subst hx
  have ht : t = t.takeWhile (fun x=>hs.contains x)++t.dropWhile (fun x=>hs.contains x):=List.takeWhile_append_dropWhile.symm
  have hin:=take_in hs t
  generalize t.takeWhile (fun x=>hs.contains x) = h1 at ht hin
  cases hd : t.dropWhile (fun x=>hs.contains x) with
  | nil =>
   rw [hd,List.append_nil] at ht
   rw [ht]
   exact ⟨[],h1,rfl,.nil,hin⟩
  | cons y t2 =>
   rw [hd] at ht
   have hy : y = x:=by
    have h2:=drop_head hd
    rcases hv y (by rw [ht];simp) with h3 | h3
    ·rw [List.contains_iff_mem.2 h3] at h2;cases h2
    ·exact h3
   subst hy
   have ht2 : t2 = t2.takeWhile (fun x=>hs.contains x)++t2.dropWhile (fun x=>hs.contains x):=List.takeWhile_append_dropWhile.symm
   have hin2:=take_in hs t2
   generalize t2.takeWhile (fun x=>hs.contains x) = h2 at ht2 hin2
   cases hd2 : t2.dropWhile (fun x=>hs.contains x) with
   | nil =>
    rw [hd2,List.append_nil] at ht2
    rw [ht,ht2] at hc
    simp [List.count_append,count_none hk hin,count_none hk hin2] at hc
   | cons w t3 =>
    rw [hd2] at ht2
    have hw : w = y:=by
     have h3:=drop_head hd2
     rcases hv w (by rw [ht,ht2];simp) with h4 | h4
     ·rw [List.contains_iff_mem.2 h4] at h3;cases h3
     ·exact h4
    have hl : (w :: t3).length≤z:=by
     have : (y :: t).length≤z+1:=hz
     rw [ht,ht2] at this
     simp at this ⊢
     omega
    obtain ⟨s,h,e,hs1,hs2⟩:=odd_go hk hH z (w :: t3) hl (fun x hx=>hv x (by rw [ht,ht2];simp only [List.mem_cons,List.mem_append] at hx ⊢;exact .inr (.inr (.inr (.inr hx))))) (by
     rw [ht,ht2] at hc
     simp only [List.count_cons_self,List.count_append,count_none hk hin,count_none hk hin2] at hc
     omega) (fun x r hx=>by injection hx with hx _;rw [← hx,hw])
    refine ⟨y :: (h1++y :: h2)++s,h,?_,.app ((pair_iff hH y _).2 ⟨h1,h2,rfl,hin,hin2⟩) hs1,hs2⟩
    rw [ht,ht2,e]
    simp
def flagsQ (Hp : Pat) (k : Nat) : List Pat:=[Hp,.node 4 [] [pairQ Hp k],setQ k,Hp]
theorem flags_iff {hs : List Nat} {Hp : Pat} {k : Nat} (hk : k ∉ hs) (hH : ∀ u,Lang Hp u ↔ ∀ x ∈ u,x ∈ hs) (u : List Nat) : LangT (flagsQ Hp k) u ↔ (∀ x ∈ u,x ∈ hs∨x = k)∧u.count k % 2 = 1:=by
 unfold flagsQ
 simp only [LangT,lang_many,hH]
 constructor
 ·rintro ⟨h0,_,rfl,g0,s,_,rfl,gs,_,_,rfl,gk,h1,_,rfl,g1,rfl⟩
  obtain ⟨y,rfl,hy⟩:=(lang_set [k] [] _).1 gk
  have hy : y = k:=by simpa using hy
  subst hy
  have h : (∀ x ∈ s,x ∈ hs∨x = y)∧s.count y % 2 = 0:=by
   induction gs with
   | nil=>simp
   | app ha _ ih =>
    obtain ⟨a1,a2,rfl,b1,b2⟩:=(pair_iff hH y _).1 ha
    refine ⟨fun x hx=>?_,?_⟩
    ·simp only [List.mem_append,List.mem_cons] at hx
     rcases hx with (h | h | h | h) | h
     ·exact .inr h
     ·exact .inl (b1 x h)
     ·exact .inr h
     ·exact .inl (b2 x h)
     ·exact ih.1 x h
    ·have:=ih.2
     simp only [List.count_append,List.count_cons_self,count_none hk b1,count_none hk b2]
     omega
  refine ⟨fun x hx=>?_,?_⟩
  ·simp only [List.mem_append,List.mem_singleton,List.append_nil] at hx
   rcases hx with h2 | h2 | h2 | h2
   ·exact .inl (g0 x h2)
   ·exact h.1 x h2
   ·exact .inr h2
   ·exact .inl (g1 x h2)
  ·have:=h.2
   simp only [List.append_nil,List.count_append,List.count_cons_self,List.count_nil,count_none hk g0,count_none hk g1]
   omega
 ·rintro ⟨hv,hc⟩
  have ht : u = u.takeWhile (fun x=>hs.contains x)++u.dropWhile (fun x=>hs.contains x):=List.takeWhile_append_dropWhile.symm
  have hin:=take_in hs u
  have hdh:=fun x r (h : u.dropWhile (fun x=>hs.contains x) = x :: r)=>drop_head h
  generalize u.takeWhile (fun x=>hs.contains x) = h0 at ht hin
  generalize u.dropWhile (fun x=>hs.contains x) = d at ht hdh
  have hvd : ∀ x ∈ d,x ∈ hs∨x = k:=fun x hx=>hv x (by rw [ht];simp [hx])
  obtain ⟨s,h,e,hs1,hs2⟩:=odd_go hk hH d.length d (Nat.le_refl _) hvd (by
   rw [ht,List.count_append,count_none hk hin] at hc
   omega) (fun x r h=>by
    have h3:=hdh x r h
    rcases hvd x (by rw [h];simp) with h4 | h4
    ·rw [List.contains_iff_mem.2 h4] at h3;cases h3
    ·exact h4)
  exact ⟨h0,d,ht,hin,s,k :: h,e,hs1,[k],h,rfl,(lang_set [k] [] _).2 ⟨k,rfl,by simp⟩,h,[],by simp,hs2,rfl⟩
def isF (hs : List Nat) (k x : Nat) : Bool:=hs.contains x || x == k
def oddA (hs : List Nat) (k : Nat) (r : List Nat) : Bool:=r.all (isF hs k) && r.count k % 2 == 1
def oddB (hs : List Nat) (k : Nat) (cs r : List Nat) : Bool:=(match r.dropWhile (isF hs k) with | []=>false | y :: _=>cs.contains y) && (r.takeWhile (isF hs k)).count k % 2 == 1
theorem isF_iff {hs : List Nat} {k x : Nat} : isF hs k x = true ↔ x ∈ hs∨x = k:=by unfold isF;simp
theorem eats_oddA {hs : List Nat} {Hp q : Pat} {k : Nat} {fs : List El} (hk : k ∉ hs) (hH : ∀ u,Lang Hp u ↔ ∀ x ∈ u,x ∈ hs) (h2 : elsP q = some fs) (o2 : okE fs = true) : Eats ⟨false,true,false,.node 2 [] (flagsQ Hp k),q⟩ ⟨false,oddA hs k,eat fs⟩ :=
 ⟨rfl,fun a=>by
  have e : Ahead true (Lang (.node 2 [] (flagsQ Hp k))) a ↔ LangT (flagsQ Hp k) a:=by
   constructor
   ·rintro ⟨u,v,rfl,h,hl⟩
    rw [h rfl,List.nil_append]
    exact (lang_then [] _ _).1 hl
   ·intro h
    exact ⟨[],a,rfl,fun _=>rfl,(lang_then [] _ _).2 h⟩
  show Ahead true _ a ↔ _
  rw [e,flags_iff hk hH]
  unfold oddA
  simp only [List.all_reverse,List.count_reverse,Bool.and_eq_true,List.all_eq_true,isF_iff,beq_iff_eq],fun b=>behind_pat h2 o2 b⟩
theorem take_all {P : Nat→Bool} {y : Nat} (hy : P y = false) (r : List Nat) : ∀ (v : List Nat),(∀ x ∈ v,P x = true)→(v++y :: r).takeWhile P = v∧(v++y :: r).dropWhile P = y :: r
 | [],_=>by rw [List.nil_append,List.takeWhile_cons,List.dropWhile_cons,hy];exact ⟨rfl,rfl⟩
 | x :: v,h=>by
  have:=take_all hy r v fun z hz=>h z (List.mem_cons_of_mem _ hz)
  rw [List.cons_append,List.takeWhile_cons,List.dropWhile_cons,h x (by simp),this.1,this.2]
  exact ⟨rfl,rfl⟩
theorem take_allR (P : Nat→Bool) : ∀ (r : List Nat),∀ x ∈ r.takeWhile P,P x = true
 | [],x,h=>by simp at h
 | y :: r,x,h=>by
  rw [List.takeWhile_cons] at h
  split at h
  ·rename_i hy
   rcases List.mem_cons.1 h with rfl | h
   ·exact hy
   ·exact take_allR P r x h
  ·simp at h
theorem eats_oddB {hs cs : List Nat} {Hp q : Pat} {k : Nat} {fs : List El} (hk : k ∉ hs) (hc : ∀ x ∈ cs,isF hs k x = false) (hH : ∀ u,Lang Hp u ↔ ∀ x ∈ u,x ∈ hs) (h2 : elsP q = some fs) (o2 : okE fs = true) : Eats ⟨false,false,false,.node 2 [] (.node 1 cs [] :: flagsQ Hp k),q⟩ ⟨false,oddB hs k cs,eat fs⟩ :=
 ⟨rfl,fun a=>by
  have e : Ahead false (Lang (.node 2 [] (.node 1 cs [] :: flagsQ Hp k))) a ↔ ∃ u y v,a = u++y :: v∧y ∈ cs∧(∀ x ∈ v,x ∈ hs∨x = k)∧v.count k % 2 = 1:=by
   constructor
   ·rintro ⟨u,v,rfl,_,hl⟩
    have hl:=(lang_then [] _ _).1 hl
    unfold LangT at hl
    obtain ⟨_,w,rfl,h1,hw⟩:=hl
    obtain ⟨y,rfl,hy⟩:=(lang_set cs [] _).1 h1
    have:=(flags_iff hk hH w).1 hw
    exact ⟨u,y,w,rfl,hy,this.1,this.2⟩
   ·rintro ⟨u,y,v,rfl,hy,h1,h2⟩
    refine ⟨u,y :: v,rfl,(fun h=>by cases h),(lang_then [] _ _).2 ?_⟩
    unfold LangT
    exact ⟨[y],v,rfl,(lang_set cs [] _).2 ⟨y,rfl,hy⟩,(flags_iff hk hH v).2 ⟨h1,h2⟩⟩
  show Ahead false _ a ↔ _
  rw [e]
  unfold oddB
  rw [Bool.and_eq_true,beq_iff_eq]
  constructor
  ·rintro ⟨u,y,v,rfl,hy,h1,h2⟩
   have e2 : (u++y :: v).reverse = v.reverse++y :: u.reverse:=by simp
   obtain ⟨e3,e4⟩:=take_all (P:=isF hs k) (hc y hy) u.reverse v.reverse (fun x hx=>isF_iff.2 (h1 x (by simpa using hx)))
   rw [e2,e3,e4,List.count_reverse]
   exact ⟨by simpa using hy,h2⟩
  ·rintro ⟨h1,h2⟩
   have h3 : a.reverse = a.reverse.takeWhile (isF hs k)++a.reverse.dropWhile (isF hs k):=List.takeWhile_append_dropWhile.symm
   have h4:=take_allR (isF hs k) a.reverse
   cases hd : a.reverse.dropWhile (isF hs k) with
   | nil=>rw [hd] at h1;cases h1
   | cons y t =>
    rw [hd] at h1 h3
    simp only [List.contains_iff_mem] at h1
    generalize a.reverse.takeWhile (isF hs k) = v at h2 h3 h4
    refine ⟨t.reverse,y,v.reverse,?_,h1,fun x hx=>isF_iff.1 (h4 x (by simpa using hx)),by rw [List.count_reverse];exact h2⟩
    have:=congrArg List.reverse h3
    rw [List.reverse_reverse] at this
    rw [this];simp,fun b=>behind_pat h2 o2 b⟩
theorem reg_count {hs : List Nat} {k : Nat} (hk : k ∉ hs) : ∀ r,regR hs k r = (r.takeWhile (isF hs k)).count k
 | []=>by simp [regR]
 | x :: r=>by
  have ih:=reg_count hk r
  rw [regR,List.takeWhile_cons]
  by_cases h1 : hs.contains x = true
  ·have hx : x ≠ k:=fun e=>hk (by rw [← e];exact List.contains_iff_mem.1 h1)
   rw [if_pos h1,if_pos (isF_iff.2 (.inl (List.contains_iff_mem.1 h1))),ih,List.count_cons_of_ne hx]
  ·by_cases h2 : x = k
   ·subst h2
    rw [if_neg h1,if_pos rfl,if_pos (isF_iff.2 (.inr rfl)),ih,List.count_cons_self]
   ·rw [if_neg h1,if_neg h2,if_neg (fun h=>(isF_iff.1 h).elim (fun h=>h1 (List.contains_iff_mem.2 h)) h2)]
    rfl
theorem odd_both {hs cs : List Nat} {k : Nat} (hk : k ∉ hs) {r : List Nat} (hr : ∀ x ∈ r,x ∈ cs∨isF hs k x = true) : (oddA hs k r || oddB hs k cs r) = (regR hs k r % 2 == 1):=by
 rw [reg_count hk]
 unfold oddA oddB
 have h3 : r = r.takeWhile (isF hs k)++r.dropWhile (isF hs k):=List.takeWhile_append_dropWhile.symm
 have h4:=take_allR (isF hs k) r
 cases hd : r.dropWhile (isF hs k) with
 | nil =>
  rw [hd,List.append_nil] at h3
  have h5 : r.all (isF hs k) = true:=List.all_eq_true.2 (by rw [h3];exact h4)
  rw [h5,← h3]
  simp
 | cons y t =>
  have h5:=drop_head hd
  have hy : y ∈ r:=by rw [h3,hd];simp
  have h6 : r.all (isF hs k) = false:=Bool.eq_false_iff.2 fun h=>by
   rw [List.all_eq_true.1 h y hy] at h5;cases h5
  have h7 : cs.contains y = true:=by
   rcases hr y hy with h | h
   ·exact List.contains_iff_mem.2 h
   ·rw [h] at h5;cases h5
  rw [h6]
  simp only [h7,Bool.false_and,Bool.false_or,Bool.true_and]
def nearH (hs r : List Nat) : Nat:=(skH hs r).head?.getD 99
theorem eat_near1 (hs l r : List Nat) (h99 : l.contains 99 = false) : eat [.many hs,.one l] r = l.contains (nearH hs r):=by
 unfold nearH skH
 rw [eat]
 cases r.dropWhile (fun x=>hs.contains x) with
 | nil=>exact h99.symm
 | cons x t=>simp [eat]
end Go.Proofs.YtdngkienloligaaGreatDoor
/- -/
namespace Go.Proofs.YtdngkienloligaaGreatDoor
def setS (l : List Nat) : Pat:=.node 1 l []
def seqQ (l : List Pat) : Pat:=.node 2 [] l
def noneQ : Pat:=.node 0 [] []
def toW (a : Nat) : Int:=if a = 99 then -1 else a
theorem toW_eq (z : Nat) (m : Nat) (hm : m < 99) : (toW z == (m : Int)) = (z == m):=by
 unfold toW
 rw [Bool.eq_iff_iff,beq_iff_eq,beq_iff_eq]
 split <;> omega
theorem toW_iff (z : Nat) (m : Nat) (hm : m < 99) : toW z = (m : Int) ↔ z = m:=by
 have h:=toW_eq z m hm
 rwa [Bool.eq_iff_iff,beq_iff_eq,beq_iff_eq] at h
theorem toI_len (c : List Nat) : (toI c).length = c.length:=by unfold toI;rw [List.length_map]
theorem or_ite (a b : Bool) (e : Bool) : (if a = true then false else if b = true then false else e) = if (a || b) = true then false else e:=by cases a <;> cases b <;> rfl
end Go.Proofs.YtdngkienloligaaGreatDoor
/- -/
namespace Go.Proofs.YtdngkienloligaaGreatDoor
open Go.RowKit Go.Maps
theorem oblank_any (c : UInt8) (w : World) : Calls Tryz.prog 235 #[.int .u8 (c.toNat : Int)] w fun e w'=>e = .returned (.bool (blkB c))∧w = w':=by
 have HT:=Lib.hid (@blk_true c)
 have HF:=Lib.hid (@blk_false c)
 generalize (c.toNat : Int) = z at HT HF
 rcases (by omega : z = 32∨z = 9∨(z ≠ 32∧z ≠ 9)) with h | h | ⟨h,h'⟩
 ·have HV:=Lib.hid (HT.out (.inl h))
  subst h
  go_enter Tryz.func235,Tryz.ntmps235
  go_wp2
  go_ret
  exact ⟨by rw [HV.out];rfl,rfl⟩
 ·have HV:=Lib.hid (HT.out (.inr h))
  subst h
  go_enter Tryz.func235,Tryz.ntmps235
  go_wp2
  go_ret
  exact ⟨by rw [HV.out];rfl,rfl⟩
 ·have HV:=Lib.hid (HF.out (by omega))
  have h1 : (z == 32) = false:=beq_eq_false_iff_ne.2 h
  have h2 : (z == 9) = false:=beq_eq_false_iff_ne.2 h'
  go_enter Tryz.func235,Tryz.ntmps235
  go_wp2
  go_ret
  exact ⟨by rw [HV.out];rfl,rfl⟩
set_option maxRecDepth 100000 in
set_option maxHeartbeats 2000000 in
theorem otrim_any (L : List UInt8) (w : World) (hL : L.length≤1000000) : Calls Tryz.prog 194 #[.string (bytesOf L)] w fun e w'=>e = .returned (.string (bytesOf (trimL L)))∧w = w':=by
 have HTE:=Lib.hid (trimL_eq L)
 go_enter Tryz.func194,Tryz.ntmps194
 go_wp2
 go_loopw [0] (fun v wr=>∃ l : List UInt8,v = .string (bytesOf l)∧l.length≤L.length∧Hid (l.dropWhile blkB = L.dropWhile blkB)∧wr = w) (fun v _=>strSize v)
 case atStart=>exact ⟨L,rfl,by omega,rfl,rfl⟩
 case round =>
  obtain ⟨l,rfl,hl,HD,rfl⟩:=hrel
  have hsz : (bytesOf l).size = l.length:=bytesOf_size l
  by_cases hb : ∃ c r,l = c :: r∧blkB c = true
  ·obtain ⟨c,r,rfl,hc⟩:=hb
   have h0 : 0 < (bytesOf (c :: r)).size:=by rw [hsz];simp
   have hix:=index_at (bytesOf (c :: r)) 0 0 rfl h0
   have hg : (bytesOf (c :: r))[0]'h0 = c:=by have:=get_list h0;rw [bytesOf_list] at this;simpa using this.symm
   rw [hg] at hix
   have hgi : (((bytesOf (c :: r))[0]'h0).toNat : Int) = (c.toNat : Int):=by rw [hg]
   have HX:=Lib.hid (ext_bytes (c :: r) 1)
   rw [hsz] at HX
   have hl2 : (r.length : Int)+1≤1000000:=by simp at hl;omega
   clear hg
   go_wp2_with (go_at_call 235;refine (oblank_any c _).mono ?_;rw [hc];rintro e w' ⟨rfl,rfl⟩)
   go_roundw
   case rel=>exact ⟨r,by first | exact congrArg Value.string HX.out | (rw [← ext_bytes (c :: r) 1];rfl),by simp at hl;omega,Lib.hid (by rw [← HD.out,drop_blank hc]),by first | rfl | trivial⟩
   case measure=>simp only [strSize,ByteArray.size_extract,bytesOf_size,List.length_cons];omega
  ·have HLD : Hid (l = L.dropWhile blkB):=Lib.hid (by
    rw [← HD.out]
    cases l with
    | nil=>rfl
    | cons c r =>
     have : blkB c = false:=by
      cases hq : blkB c with
      | false=>rfl
      | true=>exact absurd ⟨c,r,rfl,hq⟩ hb
     exact (dropWhile_stop this).symm)
   have HTR : Hid (trimL L = trimR l):=Lib.hid (by rw [HTE.out,HLD.out])
   have hstop : l = []∨∃ c r,l = c :: r∧blkB c = false:=by
    cases l with
    | nil=>exact .inl rfl
    | cons c r =>
     refine .inr ⟨c,r,rfl,?_⟩
     cases hq : blkB c with
     | false=>rfl
     | true=>exact absurd ⟨c,r,rfl,hq⟩ hb
   clear hb HD HLD
   rcases hstop with rfl | ⟨c,r,rfl,hc⟩
   ·have HT0 : Hid (trimL L = []):=Lib.hid (by rw [HTR.out];rfl)
    have hz0 : (bytesOf []).size = 0:=rfl
    go_wp2_with fail
    go_loopw [0] (fun v wq=>v = .string (bytesOf [])∧wq = wr) (fun _ _=>0)
    case atStart=>exact ⟨rfl,rfl⟩
    case round =>
     obtain ⟨rfl,rfl⟩:=hrel
     go_wp2
     go_ret
     exact ⟨by rw [HT0.out];rfl,rfl⟩
   ·have h0 : 0 < (bytesOf (c :: r)).size:=by rw [hsz];simp
    have hix:=index_at (bytesOf (c :: r)) 0 0 rfl h0
    have hg : (bytesOf (c :: r))[0]'h0 = c:=by have:=get_list h0;rw [bytesOf_list] at this;simpa using this.symm
    rw [hg] at hix
    have hgi : (((bytesOf (c :: r))[0]'h0).toNat : Int) = (c.toNat : Int):=by rw [hg]
    clear hg
    go_wp2_with (go_at_call 235;refine (oblank_any c _).mono ?_;rw [hc];rintro e w' ⟨rfl,rfl⟩)
    go_loopw [0] (fun v wq=>∃ l : List UInt8,v = .string (bytesOf l)∧l.length≤L.length∧Hid (trimR l = trimL L)∧wq = wr) (fun v _=>strSize v)
    case atStart=>exact ⟨c :: r,rfl,hl,Lib.hid HTR.out.symm,rfl⟩
    case round =>
     clear hix hgi h0
     obtain ⟨l,rfl,hl2,HD,rfl⟩:=hrel
     have hsz2 : (bytesOf l).size = l.length:=bytesOf_size l
     rcases List.eq_nil_or_concat l with rfl | ⟨o,y,rfl⟩
     ·have HT0 : Hid (trimL L = []):=Lib.hid (by rw [← HD.out];rfl)
      have hz0 : (bytesOf []).size = 0:=rfl
      go_wp2
      go_ret
      exact ⟨by rw [HT0.out];rfl,rfl⟩
     ·rw [List.concat_eq_append] at *
      have hlast : (o++[y]).getLast? = some y:=by simp
      have hol : (o++[y]).length = o.length+1:=by simp
      rw [hol] at hsz2 hl2
      have hp : o.length < (bytesOf (o++[y])).size:=by omega
      have hix:=index_at (bytesOf (o++[y])) ((o.length : Int)+1 - 1) o.length (by omega) hp
      have hix2:=index_at (bytesOf (o++[y])) (o.length : Int) o.length rfl hp
      have hg : (bytesOf (o++[y]))[o.length]'hp = y:=by have:=get_list hp;rw [bytesOf_list] at this;simpa using this.symm
      rw [hg] at hix hix2
      have hgi : (((bytesOf (o++[y]))[o.length]'hp).toNat : Int) = (y.toNat : Int):=by rw [hg]
      clear hg
      cases hy : blkB y with
      | true =>
       have HX : Hid ((bytesOf (o++[y])).extract 0 o.length = bytesOf o):=Lib.hid (by rw [ext_bytes0];simp)
       have HD' : Hid (trimR o = trimL L):=Lib.hid (by rw [← HD.out,(trim_last hlast).1 hy,hol,Nat.add_sub_cancel];simp)
       go_wp2_with (go_at_call 235;refine (oblank_any y _).mono ?_;rw [hy];rintro e w' ⟨rfl,rfl⟩)
       go_roundw
       case rel=>exact ⟨o,congrArg Value.string HX.out,by omega,HD',by first | rfl | trivial⟩
       case measure=>simp only [strSize,ByteArray.size_extract,bytesOf_size,List.length_append,List.length_singleton];omega
      | false =>
       have HD' : Hid (trimL L = o++[y]):=Lib.hid (by rw [← HD.out,(trim_last hlast).2 hy])
       go_wp2_with (go_at_call 235;refine (oblank_any y _).mono ?_;rw [hy];rintro e w' ⟨rfl,rfl⟩)
       go_ret
       exact ⟨by rw [HD'.out];rfl,rfl⟩
set_option maxRecDepth 100000 in
set_option maxHeartbeats 2000000 in
theorem oLines_any (t : List UInt8) (w : World) (ht : t.length≤1000000) :
  Calls Tryz.prog 154 #[.string (bytesOf t)] w fun e w'=>∃ A n c,e = .returned (.slice A n c)∧Own w' w.heap.size 9 1 A n c ((splitL t).map encNm)∧Below w.heap.size w w':=by
 obtain ⟨i0,hi0,hz0,hz1,hz2⟩:=info_parts info_cloneS
 have hsz : (bytesOf t).size = t.length:=bytesOf_size t
 go_enter Tryz.func154,Tryz.ntmps154
 go_wp2
 go_loopw [3,4,5] (fun a f v wr=>∃ (i frm : Nat) (done : List (List UInt8)) (A : Option Addr) (n c : Nat),a = .slice A n c∧f = .int .i64 frm∧v = .int .i64 i∧i≤t.length∧n≤i∧frm≤i∧Hid (LinesAt t i frm done)∧Own wr w.heap.size 9 1 A n c (done.map encNm)∧Below w.heap.size w wr) (fun _ _ v _=>t.length - (intOf v).toNat)
 case atStart=>exact ⟨0,0,[],none,0,0,rfl,rfl,rfl,by omega,by omega,by omega,LinesAt.start t,Own.nil_ _ _ _ _,Below.refl _ _⟩
 case round =>
  obtain ⟨i,frm,done,A,n,c,rfl,rfl,rfl,hi,hni,hfi,HL,ho,hb⟩:=hrel
  have hszr:=hb.size
  by_cases hlt : i < t.length
  ·have hp : i < (bytesOf t).size:=by omega
   have hix:=index_at (bytesOf t) i i rfl hp
   obtain ⟨x,hx⟩ : ∃ x,(bytesOf t)[i]'hp = x:=⟨_,rfl⟩
   have Hx : Hid (t[i]? = some x):=Lib.hid (by have:=get_list hp;rw [bytesOf_list,hx] at this;exact this)
   have hgi : (((bytesOf t)[i]'hp).toNat : Int) = (x.toNat : Int):=by rw [hx]
   rw [hx] at hix
   clear hx
   by_cases hx10 : x = 10
   ·have hz : ((x.toNat : Int) == 10) = true:=by rw [hx10];rfl
    have HL':=Lib.hid (LinesAt.line HL.out (by rw [Hx.out,hx10]))
    have HX:=Lib.hid (take_sub (l:=t) (a:=frm) (b:=i))
    clear hx10
    go_wp2_with (at_builtin;go_must (refine wpList_app rfl (.tmp 16) (.tmp 21) _ rfl w.heap.size 9 i0 _ 1 16 Tryz.underlying108 hi0 hz0 hz1 hz2 rfl (by omega) A n c (done.map encNm) rfl (ho.alloc _) _ 1 1 [encNm ((t.drop frm).take (i - frm))] rfl rfl (Rd.newAt (by simp) (by simp [encNm,HX.out])) (encNm_ok [(t.drop frm).take (i - frm)]) (by unfold maxLen;omega) (by omega) (by simp;omega) ?_);intro A3 c3 w3 ho3 hg3 hA3;have hb3:=below_app (hb.alloc (by omega) _) hg3 (by simp;omega) (fun a ha=>(ho.lt a ha).1);clear hg3)
    have Ho3 : Own w3 w.heap.size 9 1 A3 (n+1) c3 ((done++[(t.drop frm).take (i - frm)]).map encNm):=by rw [List.map_append];exact ho3
    clear ho3
    go_roundw
    case rel=>exact ⟨i+1,i+1,_,A3,n+1,c3,rfl,by go_num,by go_num,by omega,by omega,by omega,HL',Ho3,hb3⟩
    case measure=>simp [intOf];omega
   ·have hz : ((x.toNat : Int) == 10) = false:=beq_eq_false_iff_ne.2 (fun e=>hx10 ((u8_eq (n:=10) (by omega)).2 (by omega)))
    have HL':=Lib.hid (LinesAt.byte HL.out Hx.out hx10)
    clear hx10
    go_wp2
    go_roundw
    case rel=>exact ⟨i+1,frm,done,A,n,c,rfl,rfl,by go_num,by omega,by omega,by omega,HL',ho,hb⟩
    case measure=>simp [intOf];omega
  ·obtain rfl : i = t.length:=by omega
   have HE:=Lib.hid (LinesAt.done HL.out)
   have HX:=Lib.hid (ext_bytes t frm)
   rw [hsz] at HX
   go_wp2_with (at_builtin;go_must (refine wpList_app rfl (.tmp 25) (.tmp 29) _ rfl w.heap.size 9 i0 _ 1 16 Tryz.underlying108 hi0 hz0 hz1 hz2 rfl (by omega) A n c (done.map encNm) rfl (ho.alloc _) _ 1 1 [encNm (t.drop frm)] rfl rfl (Rd.newAt (by simp) (by simp [encNm,HX.out])) (encNm_ok [t.drop frm]) (by unfold maxLen;omega) (by omega) (by simp;omega) ?_);intro A3 c3 w3 ho3 hg3 hA3;have hb3:=below_app (hb.alloc (by omega) _) hg3 (by simp;omega) (fun a ha=>(ho.lt a ha).1);clear hg3)
   go_ret
   exact ⟨A3,n+1,c3,rfl,by rw [HE.out,List.map_append];exact ho3,hb3⟩
end Go.Proofs.YtdngkienloligaaGreatDoor
/- -/
namespace Go.Proofs.YtdngkienloligaaGreatDoor
open Go.RowKit Go.Maps
theorem pBlank_eq : pBlank = blkB:=by
 funext c
 have h1 : c = 32 ↔ c.toNat = 32:=u8_eq (n:=32) (by omega)
 have h2 : c = 9 ↔ c.toNat = 9:=u8_eq (n:=9) (by omega)
 unfold pBlank blkB
 rw [Bool.eq_iff_iff]
 simp only [Bool.or_eq_true,beq_iff_eq,decide_eq_true_iff,h1,h2]
theorem trimB_eq (l : List UInt8) : trimB l = trimL l:=by unfold trimB trimL;rw [pBlank_eq]
theorem byte_of (t : List UInt8) {i : Nat} (hi : i < t.length) : ∃ x,t[i]? = some x∧∀ W,(Instr.index 9 (.string (bytesOf t)) (.int .i64 (i : Nat))).run Tryz.prog W = .ok (.int .u8 (x.toNat : Int)) W:=by
 have hp : i < (bytesOf t).size:=by rw [bytesOf_size];exact hi
 refine ⟨(bytesOf t)[i]'hp,?_,fun W=>index_at (bytesOf t) i i rfl hp W⟩
 have:=get_list hp
 rw [bytesOf_list] at this
 exact this
theorem take_at {q : UInt8→Bool} {l : List UInt8} {i : Nat} {x : UInt8} (hx : l[i]? = some x) : (q x = true→l.take i++(l.drop i).takeWhile q = l.take (i+1)++(l.drop (i+1)).takeWhile q)∧(q x = false→l.take i++(l.drop i).takeWhile q = l.take i):=by
 obtain ⟨hi,e⟩:=List.getElem?_eq_some_iff.1 hx
 rw [List.drop_eq_getElem_cons hi,e]
 constructor
 ·intro hq
  rw [List.takeWhile_cons,if_pos hq,List.take_add_one,hx]
  simp
 ·intro hq
  rw [List.takeWhile_cons,if_neg (by rw [hq];simp),List.append_nil]
set_option maxRecDepth 100000 in
set_option maxHeartbeats 4000000 in
theorem oplain_any (L : List UInt8) (w : World) (hL : L.length≤1000000) : Calls Tryz.prog 192 #[.string (bytesOf L)] w fun e w'=>e = .returned (.string (bytesOf (plainB L)))∧w = w':=by
 have hsz : (bytesOf L).size = L.length:=bytesOf_size L
 have HT:=Lib.hid (fun i W=>show Calls Tryz.prog 194 #[.string ((bytesOf L).extract 0 i)] W fun e w'=>e = .returned (.string (bytesOf (trimL (L.take i))))∧W = w' by
  rw [ext_bytes0];exact otrim_any (L.take i) W (by rw [List.length_take];omega))
 have HA:=Lib.hid (fun W=>otrim_any L W hL)
 have HP:=Lib.hid (show plainB L = trimL (L.takeWhile fun c=>decide (c.toNat ≠ 35)) by unfold plainB;rw [trimB_eq])
 go_enter Tryz.func192,Tryz.ntmps192
 go_wp2
 go_loopw [3] (fun v wr=>∃ i : Nat,v = .int .i64 i∧i≤L.length∧Hid ((L.takeWhile fun c=>decide (c.toNat ≠ 35)) = L.take i++(L.drop i).takeWhile fun c=>decide (c.toNat ≠ 35))∧wr = w) (fun v _=>L.length - (intOf v).toNat)
 case atStart=>exact ⟨0,rfl,by omega,Lib.hid rfl,rfl⟩
 case round =>
  obtain ⟨i,rfl,hi,HD,rfl⟩:=hrel
  by_cases hlt : i < L.length
  ·obtain ⟨x,hx,hix⟩:=byte_of L hlt
   by_cases h35 : x.toNat = 35
   ·have t1 : ((x.toNat : Int) == 35) = true:=by rw [beq_iff_eq];omega
    have HE:=Lib.hid (show plainB L = trimL (L.take i) by rw [HP.out,HD.out,(take_at hx).2 (by simp [h35])])
    have HT1:=Lib.hid (HT.out i wr)
    clear hx h35
    go_wp2_with (go_at_call 194;refine HT1.out.mono ?_;rintro e w' ⟨rfl,rfl⟩)
    go_ret
    exact ⟨by rw [HE.out];rfl,rfl⟩
   ·have t1 : ((x.toNat : Int) == 35) = false:=by rw [beq_eq_false_iff_ne];omega
    have HD2:=Lib.hid (HD.out.trans ((take_at hx).1 (by simp [h35])))
    clear hx h35
    go_wp2
    go_roundw
    case rel=>exact ⟨i+1,by go_num,by omega,HD2,by first | rfl | trivial⟩
    case measure=>simp [intOf];omega
  ·obtain rfl : i = L.length:=by omega
   have HE:=Lib.hid (show plainB L = trimL L by rw [HP.out,HD.out];simp)
   have HT1:=Lib.hid (HA.out wr)
   go_wp2_with (go_at_call 194;refine HT1.out.mono ?_;rintro e w' ⟨rfl,rfl⟩)
   go_ret
   exact ⟨by rw [HE.out];rfl,rfl⟩
theorem signP_some {l a b : List UInt8} {cut : Bool} (h : signP l = some (a,cut,b)) : ∃ c,l = a++c :: b∧(∀ x ∈ a,pSign x = false)∧pSign c = true∧(∀ x ∈ b,pSign x = false)∧cut = decide (c.toNat = 47):=by
 unfold signP at h
 split at h
 ·cases h
 ·rename_i c t hd
  split at h
  ·cases h
  ·rename_i hb
   injection h with h
   injection h with h1 h2
   injection h2 with h2 h3
   subst h1 h2 h3
   have hc : (!pSign c) = false:=by
    have h1:=List.head?_dropWhile_not (fun c=>!pSign c) l
    rw [hd] at h1
    simpa using h1
   refine ⟨c,?_,fun x hx=>?_,by simpa using hc,fun x hx=>?_,rfl⟩
   ·rw [← hd,List.takeWhile_append_dropWhile]
   ·have h1:=List.all_takeWhile (p:=fun c=>!pSign c) (l:=l)
    rw [List.all_eq_true] at h1
    simpa using h1 x hx
   ·cases hq : pSign x with
    | false=>rfl
    | true=>exact absurd (List.any_eq_true.2 ⟨x,hx,hq⟩) hb
theorem sign_tests (x : UInt8) : pSign x = (((x.toNat : Int) == 126) || ((x.toNat : Int) == 47)):=by
 unfold pSign
 rw [Bool.eq_iff_iff]
 simp only [Bool.or_eq_true,beq_iff_eq,decide_eq_true_iff]
 omega
set_option maxRecDepth 100000 in
set_option maxHeartbeats 4000000 in
theorem osplit_ok (a b : List UInt8) (c : UInt8) (w : World) (hz : (a++c :: b).length≤1000000) (ha : ∀ x ∈ a,pSign x = false) (hc : pSign c = true) (hb : ∀ x ∈ b,pSign x = false) : Calls Tryz.prog 193 #[.string (bytesOf (a++c :: b))] w fun e w'=>e = .returned (.int .i64 (a.length : Nat))∧w = w':=by
 have HI:=Lib.hid (fun i x (hx : (a++c :: b)[i]? = some x)=>show pSign x = decide (i = a.length) by
  rcases Nat.lt_trichotomy i a.length with h | h | h
  ·rw [List.getElem?_append_left h] at hx
   rw [ha x (List.mem_of_getElem? hx),decide_eq_false (by omega)]
  ·subst h
   rw [List.getElem?_append_right (Nat.le_refl _),Nat.sub_self,List.getElem?_cons_zero] at hx
   injection hx with hx
   subst hx
   rw [hc,decide_eq_true rfl]
  ·rw [List.getElem?_append_right (by omega)] at hx
   obtain ⟨j,hj⟩ : ∃ j,i - a.length = j+1:=⟨i - a.length - 1,by omega⟩
   rw [hj,List.getElem?_cons_succ] at hx
   rw [hb x (List.mem_of_getElem? hx),decide_eq_false (by omega)])
 have hl : (a++c :: b).length = a.length+1+b.length:=by simp;omega
 have hsz : (bytesOf (a++c :: b)).size = (a++c :: b).length:=bytesOf_size _
 have HB:=Lib.hid (fun i (hi : i < (a++c :: b).length)=>byte_of (a++c :: b) hi)
 obtain ⟨m,hm⟩ : ∃ m,a.length = m:=⟨_,rfl⟩
 rw [hm] at HI hl ⊢
 generalize a++c :: b = L at HI HB hsz hl hz ⊢
 clear ha hb hc hm
 go_enter Tryz.func193,Tryz.ntmps193
 go_wp2
 go_loopw [3,4] (fun u v wr=>∃ i : Nat,v = .int .i64 i∧i≤L.length∧((i≤m∧u = .int .i64 (-1))∨(m < i∧u = .int .i64 (m : Nat)))∧wr = w) (fun _ v _=>L.length - (intOf v).toNat)
 case atStart=>exact ⟨0,rfl,by omega,.inl ⟨by omega,rfl⟩,rfl⟩
 case round =>
  obtain ⟨i,rfl,hi,hcs,rfl⟩:=hrel
  by_cases hlt : i < L.length
  ·obtain ⟨x,hx,hix⟩:=HB.out i hlt
   have hq:=HI.out i x hx
   rw [sign_tests] at hq
   rcases Nat.lt_trichotomy i m with h | h | h
   ·rcases hcs with ⟨_,rfl⟩ | ⟨h2,_⟩
    ·rw [decide_eq_false (by omega),Bool.or_eq_false_iff] at hq
     obtain ⟨t1,t2⟩:=hq
     clear hx
     go_wp2
     go_roundw
     case rel=>exact ⟨i+1,by go_num,by omega,.inl ⟨by omega,rfl⟩,by first | rfl | trivial⟩
     case measure=>simp [intOf];omega
    ·omega
   ·subst h
    rcases hcs with ⟨_,rfl⟩ | ⟨h2,_⟩
    ·rw [decide_eq_true rfl,Bool.or_eq_true] at hq
     cases t1 : ((x.toNat : Int) == 126) with
     | true =>
      clear hx hq
      go_wp2
      go_roundw
      case rel=>exact ⟨i+1,by go_num,by omega,.inr ⟨by omega,rfl⟩,by first | rfl | trivial⟩
      case measure=>simp [intOf];omega
     | false =>
      have t2 : ((x.toNat : Int) == 47) = true:=by rcases hq with h | h;rw [t1] at h;cases h;exact h
      clear hx hq
      go_wp2
      go_roundw
      case rel=>exact ⟨i+1,by go_num,by omega,.inr ⟨by omega,rfl⟩,by first | rfl | trivial⟩
      case measure=>simp [intOf];omega
    ·omega
   ·rcases hcs with ⟨h2,_⟩ | ⟨_,rfl⟩
    ·omega
    ·rw [decide_eq_false (by omega),Bool.or_eq_false_iff] at hq
     obtain ⟨t1,t2⟩:=hq
     clear hx
     go_wp2
     go_roundw
     case rel=>exact ⟨i+1,by go_num,by omega,.inr ⟨by omega,rfl⟩,by first | rfl | trivial⟩
     case measure=>simp [intOf];omega
  ·obtain rfl : i = L.length:=by omega
   rcases hcs with ⟨h2,_⟩ | ⟨_,rfl⟩
   ·omega
   ·go_wp2
    go_ret
    exact ⟨rfl,rfl⟩
end Go.Proofs.YtdngkienloligaaGreatDoor
/- -/
namespace Go.Proofs.YtdngkienloligaaGreatDoor
open Go.RowKit
section
variable {g : Nat→Nat} {n : Nat}
end
end Go.Proofs.YtdngkienloligaaGreatDoor
/- -/
namespace Go.Proofs.YtdngkienloligaaGreatDoor
open Go.RowKit Go.Maps
end Go.Proofs.YtdngkienloligaaGreatDoor
/- -/
namespace Go.Proofs.YtdngkienloligaaGreatDoor
def marksQ : Pat:=.node 4 [] [setQ 8]
def blanksQ : Pat:=.node 4 [] [setQ 4]
def maybeQ (p : Pat) : Pat:=.node 6 [] [p]
def rulesL : List RuleP:=[
 ⟨false,false,false,setQ 2,setQ 3⟩,
 ⟨true,false,false,setS [1,2,3],noneQ⟩,
 ⟨false,false,false,noneQ,setS [1,2,3,4,5]⟩,
 ⟨true,false,false,seqQ [setQ 5,blanksQ],noneQ⟩,
 ⟨false,false,false,setS [0,6,7,8,9,10,11,12,13,14,15,16,17,18,19,20,21,22,23,24,25],setQ 8⟩,
 ⟨false,false,false,noneQ,setQ 6⟩,
 ⟨false,false,false,seqQ [setQ 6,marksQ],noneQ⟩,
 ⟨false,false,false,seqQ [setQ 7,marksQ],noneQ⟩,
 ⟨false,false,false,seqQ [setS [0,1,2,3,5,6,7,9,10,11,12,13,14,15,18,19,20,21,22,23,24,25],marksQ],setQ 7⟩,
 ⟨false,true,false,seqQ [setQ 8,marksQ],setQ 7⟩,
 ⟨false,false,false,noneQ,setS [10,11,13,14,15]⟩,
 ⟨false,false,false,seqQ [setQ 9,marksQ,blanksQ],noneQ⟩,
 ⟨false,false,false,seqQ [setQ 12,marksQ,blanksQ],setQ 9⟩,
 ⟨false,false,false,seqQ [setS [10,11],marksQ,blanksQ],setQ 24⟩,
 ⟨false,false,false,seqQ [setQ 18,marksQ,blanksQ],setQ 18⟩,
 ⟨true,false,false,setQ 4,noneQ⟩,
 ⟨false,false,false,noneQ,setQ 12⟩,
 ⟨false,false,false,seqQ [setQ 12,marksQ],noneQ⟩,
 ⟨false,false,false,noneQ,setS [16,17,24]⟩,
 ⟨false,false,false,noneQ,setQ 19⟩,
 ⟨false,false,false,seqQ [setQ 0,marksQ],setQ 20⟩,
 ⟨false,false,false,seqQ [setQ 20,marksQ],setQ 0⟩,
 ⟨false,false,false,seqQ [setQ 22,marksQ],setQ 23⟩,
 ⟨false,false,false,seqQ [setQ 23,marksQ],setQ 21⟩,
 ⟨false,false,false,seqQ [setS [21,22],marksQ],setQ 0⟩,
 ⟨false,false,false,seqQ [setQ 0,marksQ],setS [21,22]⟩,
 ⟨false,false,false,seqQ [setQ 20,marksQ,maybeQ (setS [14,15]),marksQ,maybeQ (setS [10,11]),marksQ],setS [21,22]⟩,
 ⟨false,false,false,seqQ [setS [21,22],marksQ],seqQ [maybeQ (.node 3 [] [setQ 9,setQ 16]),setQ 20]⟩,
 ⟨false,false,false,seqQ [setS [14,15,16,20],marksQ],setQ 20⟩,
 ⟨false,false,false,seqQ [setQ 0,marksQ],setQ 0⟩,
 ⟨false,false,false,seqQ [setQ 14,marksQ],setQ 0⟩,
 ⟨false,false,false,seqQ [setS [0,20],marksQ],setQ 9⟩,
 ⟨false,false,false,seqQ [setQ 10,marksQ],setS [0,20]⟩,
 ⟨false,true,false,seqQ (flagsQ marksQ 25),setQ 25⟩,
 ⟨false,false,false,seqQ (setS [0,1,2,3,4,5,6,7,9,10,11,12,13,14,15,16,17,18,19,20,21,22,23,24] :: flagsQ marksQ 25),setQ 25⟩]
def onlyM (r : List Nat) : Bool:=!r.isEmpty && r.all fun x=>x == 8
def numE : List El:=[.many [8],.may [10,11],.many [8],.may [14,15],.many [8],.one [20]]
def testsL : List RB:=[
 ⟨false,eat [.one [2]],eat [.one [3]]⟩,
 ⟨true,eat [.one [1,2,3]],eat []⟩,
 ⟨false,eat [],eat [.one [1,2,3,4,5]]⟩,
 ⟨true,eat [.many [4],.one [5]],eat []⟩,
 ⟨false,eat [.one [0,6,7,8,9,10,11,12,13,14,15,16,17,18,19,20,21,22,23,24,25]],eat [.one [8]]⟩,
 ⟨false,eat [],eat [.one [6]]⟩,
 ⟨false,eat [.many [8],.one [6]],eat []⟩,
 ⟨false,eat [.many [8],.one [7]],eat []⟩,
 ⟨false,eat [.many [8],.one [0,1,2,3,5,6,7,9,10,11,12,13,14,15,18,19,20,21,22,23,24,25]],eat [.one [7]]⟩,
 ⟨false,onlyM,eat [.one [7]]⟩,
 ⟨false,eat [],eat [.one [10,11,13,14,15]]⟩,
 ⟨false,eat [.many [4],.many [8],.one [9]],eat []⟩,
 ⟨false,eat [.many [4],.many [8],.one [12]],eat [.one [9]]⟩,
 ⟨false,eat [.many [4],.many [8],.one [10,11]],eat [.one [24]]⟩,
 ⟨false,eat [.many [4],.many [8],.one [18]],eat [.one [18]]⟩,
 ⟨true,eat [.one [4]],eat []⟩,
 ⟨false,eat [],eat [.one [12]]⟩,
 ⟨false,eat [.many [8],.one [12]],eat []⟩,
 ⟨false,eat [],eat [.one [16,17,24]]⟩,
 ⟨false,eat [],eat [.one [19]]⟩,
 ⟨false,eat [.many [8],.one [0]],eat [.one [20]]⟩,
 ⟨false,eat [.many [8],.one [20]],eat [.one [0]]⟩,
 ⟨false,eat [.many [8],.one [22]],eat [.one [23]]⟩,
 ⟨false,eat [.many [8],.one [23]],eat [.one [21]]⟩,
 ⟨false,eat [.many [8],.one [21,22]],eat [.one [0]]⟩,
 ⟨false,eat [.many [8],.one [0]],eat [.one [21,22]]⟩,
 ⟨false,eat numE,eat [.one [21,22]]⟩,
 ⟨false,eat [.many [8],.one [21,22]],eat [.may [9,16],.one [20]]⟩,
 ⟨false,eat [.many [8],.one [14,15,16,20]],eat [.one [20]]⟩,
 ⟨false,eat [.many [8],.one [0]],eat [.one [0]]⟩,
 ⟨false,eat [.many [8],.one [14]],eat [.one [0]]⟩,
 ⟨false,eat [.many [8],.one [0,20]],eat [.one [9]]⟩,
 ⟨false,eat [.many [8],.one [10]],eat [.one [0,20]]⟩,
 ⟨false,oddA [8] 25,eat [.one [25]]⟩,
 ⟨false,oddB [8] 25 [0,1,2,3,4,5,6,7,9,10,11,12,13,14,15,16,17,18,19,20,21,22,23,24],eat [.one [25]]⟩]
theorem marksQ_iff (u : List Nat) : Lang marksQ u ↔ ∀ x ∈ u,x ∈ [8]:=by
 unfold marksQ setQ
 rw [lang_many,star_congr (lang_set [8] []),star_set]
theorem eats_onlyM {q : Pat} {fs : List El} (h2 : elsP q = some fs) (o2 : okE fs = true) : Eats ⟨false,true,false,seqQ [setQ 8,marksQ],q⟩ ⟨false,onlyM,eat fs⟩ :=
 ⟨rfl,fun a=>by
  have e : Ahead true (Lang (seqQ [setQ 8,marksQ])) a ↔ ∃ v,a = 8 :: v∧∀ x ∈ v,x ∈ [8]:=by
   unfold seqQ
   constructor
   ·rintro ⟨u,v,rfl,h,hl⟩
    have hl:=(lang_then [] _ _).1 hl
    simp only [LangT,marksQ_iff] at hl
    obtain ⟨_,_,rfl,h1,w,_,rfl,h2,rfl⟩:=hl
    obtain ⟨y,rfl,hy⟩:=(lang_set [8] [] _).1 h1
    have hy : y = 8:=by simpa using hy
    subst hy
    rw [h rfl]
    exact ⟨w,by simp,h2⟩
   ·rintro ⟨v,rfl,h⟩
    refine ⟨[],8 :: v,rfl,fun _=>rfl,(lang_then [] _ _).2 ?_⟩
    simp only [LangT,marksQ_iff]
    exact ⟨[8],v,rfl,(lang_set [8] [] _).2 ⟨8,rfl,by simp⟩,v,[],by simp,h,rfl⟩
  show Ahead true _ a ↔ _
  rw [e]
  unfold onlyM
  simp only [List.all_reverse,List.isEmpty_reverse,Bool.and_eq_true,List.all_eq_true,beq_iff_eq]
  constructor
  ·rintro ⟨v,rfl,h⟩
   refine ⟨rfl,fun x hx=>?_⟩
   rcases List.mem_cons.1 hx with rfl | hx
   ·rfl
   ·simpa using h x hx
  ·rintro ⟨h1,h2⟩
   cases a with
   | nil=>cases h1
   | cons x v =>
    rw [h2 x (by simp)]
    exact ⟨v,rfl,fun y hy=>by rw [h2 y (List.mem_cons_of_mem _ hy)];simp⟩,fun b=>behind_pat h2 o2 b⟩
theorem eats_L : EatsL rulesL testsL :=
 .cons (.pat rfl rfl rfl rfl) <| .cons (.pat rfl rfl rfl rfl) <| .cons (.pat rfl rfl rfl rfl) <| .cons (.pat rfl rfl rfl rfl) <| .cons (.pat rfl rfl rfl rfl) <|
 .cons (.pat rfl rfl rfl rfl) <| .cons (.pat rfl rfl rfl rfl) <| .cons (.pat rfl rfl rfl rfl) <| .cons (.pat rfl rfl rfl rfl) <| .cons (eats_onlyM rfl rfl) <|
 .cons (.pat rfl rfl rfl rfl) <| .cons (.pat rfl rfl rfl rfl) <| .cons (.pat rfl rfl rfl rfl) <| .cons (.pat rfl rfl rfl rfl) <| .cons (.pat rfl rfl rfl rfl) <|
 .cons (.pat rfl rfl rfl rfl) <| .cons (.pat rfl rfl rfl rfl) <| .cons (.pat rfl rfl rfl rfl) <| .cons (.pat rfl rfl rfl rfl) <| .cons (.pat rfl rfl rfl rfl) <|
 .cons (.pat rfl rfl rfl rfl) <| .cons (.pat rfl rfl rfl rfl) <| .cons (.pat rfl rfl rfl rfl) <| .cons (.pat rfl rfl rfl rfl) <| .cons (.pat rfl rfl rfl rfl) <|
 .cons (.pat rfl rfl rfl rfl) <| .cons (.pat rfl rfl rfl rfl) <| .cons (.pat rfl rfl rfl rfl) <| .cons (.pat rfl rfl rfl rfl) <| .cons (.pat rfl rfl rfl rfl) <|
 .cons (.pat rfl rfl rfl rfl) <| .cons (.pat rfl rfl rfl rfl) <| .cons (.pat rfl rfl rfl rfl) <|
 .cons (eats_oddA (by decide) marksQ_iff rfl rfl) <| .cons (eats_oddB (by decide) (by decide) marksQ_iff rfl rfl) .nil
def gluT (p a q : Nat) : Bool :=
 ([0,6,7,8,9,10,11,12,13,14,15,16,17,18,19,20,21,22,23,24,25].contains p && [8].contains q) || [6].contains q || [6].contains a || [7].contains a ||
 ([0,1,2,3,5,6,7,9,10,11,12,13,14,15,18,19,20,21,22,23,24,25].contains a && [7].contains q) || (a == 99 && [7].contains q) || [10,11,13,14,15].contains q
def ovrT (w q : Nat) : Bool:=[9].contains w || ([12].contains w && [9].contains q) || ([10,11].contains w && [24].contains q) || ([18].contains w && [18].contains q)
def letT (a q : Nat) (num nx o : Bool) : Bool :=
 [12].contains q || [12].contains a || [16,17,24].contains q || [19].contains q || ([0].contains a && [20].contains q) || ([20].contains a && [0].contains q) ||
 ([22].contains a && [23].contains q) || ([23].contains a && [21].contains q) || ([21,22].contains a && [0].contains q) || ([0].contains a && [21,22].contains q) ||
 (num && [21,22].contains q) || ([21,22].contains a && if [9,16].contains q then nx else [20].contains q) || ([14,15,16,20].contains a && [20].contains q) ||
 ([0].contains a && [0].contains q) || ([14].contains a && [0].contains q) || ([0,20].contains a && [9].contains q) || ([10].contains a && [0,20].contains q) || (o && [25].contains q)
def headL (p q : Nat) (zw g l : Bool) : Bool :=
 if [2].contains p && [3].contains q then false
 else if [1,2,3].contains p then true
 else if [1,2,3,4,5].contains q then false
 else if zw then true
 else if g then false
 else if [4].contains p then true
 else if l then false
 else true
def cutL (p q : Int) (zw g l : Bool) : Bool :=
 if p = 2∧q = 3 then false
 else if lMust p then true
 else if [1,2,3,4,5].contains q then false
 else if zw then true
 else if g then false
 else if p = 4 then true
 else !l
def lettL (b q : Int) (num nx o : Bool) : Bool :=
 ([12,17,16,24,19].contains q || b == 12 || lPairs b q) || ([21,22].contains q && num) || ([21,22].contains b && (q == 20 || [9,16].contains q && nx)) || (q == 25 && o)
def overL (a q : Int) : Bool:=a == 9 || a == 12 && q == 9 || [11,10].contains a && q == 24 || a == 18 && q == 18
def clsL : List Nat:=99 :: List.range 26
theorem headL_all : (List.range 26).all (fun p=>(List.range 26).all fun q=>[false,true].all fun z=>[false,true].all fun g=>[false,true].all fun l=>headL p q z g l == cutL (p : Int) (q : Int) z g l) = true:=by decide +kernel
theorem gluT_all : (List.range 26).all (fun p=>clsL.all fun a=>(List.range 26).all fun q=>(a == 8) || gluT p a q == lGlued (p : Int) (toW a) (q : Int)) = true:=by decide +kernel
theorem ovrT_all : clsL.all (fun w=>(List.range 26).all fun q=>ovrT w q == overL (toW w) (q : Int)) = true:=by decide +kernel
theorem letT_all : clsL.all (fun a=>(List.range 26).all fun q=>[false,true].all fun num=>[false,true].all fun nx=>[false,true].all fun o=>letT a q num nx o == lettL (toW a) (q : Int) num nx o) = true:=by decide +kernel
theorem bools (b : Bool) : b ∈ [false,true]:=by cases b <;> simp
theorem headL_eq {p q : Nat} (hp : p < 26) (hq : q < 26) (z g l : Bool) : headL p q z g l = cutL (p : Int) (q : Int) z g l:=by
 have h:=headL_all
 rw [List.all_eq_true] at h
 have h:=h p (by simpa using hp)
 rw [List.all_eq_true] at h
 have h:=h q (by simpa using hq)
 rw [List.all_eq_true] at h
 have h:=h z (bools z)
 rw [List.all_eq_true] at h
 have h:=h g (bools g)
 rw [List.all_eq_true] at h
 have h:=h l (bools l)
 rwa [beq_iff_eq] at h
theorem gluT_eq {p a q : Nat} (hp : p < 26) (ha : a ∈ clsL) (h8 : a ≠ 8) (hq : q < 26) : gluT p a q = lGlued (p : Int) (toW a) (q : Int):=by
 have h:=gluT_all
 rw [List.all_eq_true] at h
 have h:=h p (by simpa using hp)
 rw [List.all_eq_true] at h
 have h:=h a ha
 rw [List.all_eq_true] at h
 have h:=h q (by simpa using hq)
 rw [Bool.or_eq_true,beq_iff_eq,beq_iff_eq] at h
 exact h.resolve_left h8
theorem ovrT_eq {w q : Nat} (hw : w ∈ clsL) (hq : q < 26) : ovrT w q = overL (toW w) (q : Int):=by
 have h:=ovrT_all
 rw [List.all_eq_true] at h
 have h:=h w hw
 rw [List.all_eq_true] at h
 have h:=h q (by simpa using hq)
 rwa [beq_iff_eq] at h
theorem letT_eq {a q : Nat} (ha : a ∈ clsL) (hq : q < 26) (num nx o : Bool) : letT a q num nx o = lettL (toW a) (q : Int) num nx o:=by
 have h:=letT_all
 rw [List.all_eq_true] at h
 have h:=h a ha
 rw [List.all_eq_true] at h
 have h:=h q (by simpa using hq)
 rw [List.all_eq_true] at h
 have h:=h num (bools num)
 rw [List.all_eq_true] at h
 have h:=h nx (bools nx)
 rw [List.all_eq_true] at h
 have h:=h o (bools o)
 rwa [beq_iff_eq] at h
theorem past_drop (c : List Nat) (k : Nat) : ∀ n,n≤c.length→(c.take (lPast (toI c) (k : Int) n)).reverse = skH [k] (c.take n).reverse
 | 0,_=>by simp [lPast,skH]
 | n+1,h=>by
  have ih:=past_drop c k n (by omega)
  unfold skH at ih ⊢
  rw [ahead_succ (by omega),List.dropWhile_cons,lPast,toI_get]
  by_cases e : c.getD n 0 = k
  ·rw [if_pos (by omega),if_pos (by simpa using e)];exact ih
  ·rw [if_neg (by omega),if_neg (by simpa using e),ahead_succ (by omega)]
theorem last_eq {c : List Nat} (hc : ∀ x ∈ c,x < 26) {n : Nat} (hn : n≤c.length) : lLast (toI c) n = toW ((c.take n).reverse.head?.getD 99):=by
 cases n with
 | zero=>rfl
 | succ n =>
  rw [lLast_succ,toI_get,ahead_succ (by omega),List.head?_cons,Option.getD_some]
  have : c.getD n 0 < 26:=by rw [List.getD_eq_getElem?_getD,List.getElem?_eq_getElem (by omega)];exact hc _ (List.getElem_mem _)
  unfold toW
  rw [if_neg (by omega)]
theorem nearL_eq {c : List Nat} (hc : ∀ x ∈ c,x < 26) (k : Nat) {n : Nat} (hn : n≤c.length) : lLast (toI c) (lPast (toI c) (k : Int) n) = toW (nearH [k] (c.take n).reverse):=by
 rw [last_eq hc (Nat.le_trans (lPast_le _ _ _) hn),past_drop c k n hn];rfl
theorem skH_head {hs r t : List Nat} {x : Nat} (h : skH hs r = x :: t) : hs.contains x = false:=drop_head h
theorem skH_twice (hs r : List Nat) : skH hs (skH hs r) = skH hs r:=by
 cases h : skH hs r with
 | nil=>rfl
 | cons x t =>
  have:=skH_head h
  unfold skH
  rw [List.dropWhile_cons,this];rfl
theorem head_cls {c r : List Nat} (hc : ∀ x ∈ c,x < 26) (hr : ∀ x ∈ r,x ∈ c) (hs : List Nat) : nearH hs r ∈ clsL:=by
 unfold nearH clsL
 cases hd : skH hs r with
 | nil=>simp
 | cons x t =>
  have:=hc x (hr x ((List.dropWhile_suffix _).subset (show x ∈ skH hs r by rw [hd];simp)))
  simp only [List.head?_cons,Option.getD_some,List.mem_cons,List.mem_range]
  exact .inr this
theorem near_not {hs r : List Nat} {x : Nat} (h : hs.contains x = true) (h99 : x ≠ 99) : nearH hs r ≠ x:=by
 unfold nearH
 cases hd : skH hs r with
 | nil=>exact fun e=>h99 e.symm
 | cons y t =>
  intro e
  have e : y = x:=e
  subst e
  rw [skH_head hd] at h;cases h
theorem regL_eq {c : List Nat} (hc : ∀ x ∈ c,x < 26) : ∀ (f n : Nat),n < f→n≤c.length→lRegGo (toI c) f (lPast (toI c) 8 n) = regR [8] 25 (c.take n).reverse
 | 0,n,h,_=>absurd h (Nat.not_lt_zero _)
 | f+1,n,h,hn=>by
  have hp:=past_drop c 8 n hn
  have hl:=lPast_le (toI c) ((8 : Nat) : Int) n
  rw [lRegGo,regR_drop,← hp]
  change (if lLast (toI c) (lPast (toI c) ((8 : Nat) : Int) n) = 25 then lRegGo (toI c) f (lPast (toI c) 8 (lPast (toI c) ((8 : Nat) : Int) n - 1))+1 else 0) = _
  rw [last_eq hc (by omega)]
  cases hm : lPast (toI c) ((8 : Nat) : Int) n with
  | zero=>rfl
  | succ j =>
   rw [hm] at hl
   rw [ahead_succ (by omega),List.head?_cons,Option.getD_some]
   have h7 : toW (c.getD j 0) = 25 ↔ c.getD j 0 = 25:=toW_iff _ 25 (by omega)
   simp only
   by_cases h8 : c.getD j 0 = 25
   ·rw [if_pos (h7.2 h8),if_pos h8,Nat.add_sub_cancel,regL_eq hc f j (by omega) (by omega)]
   ·rw [if_neg (fun e=>h8 (h7.1 e)),if_neg h8]
theorem eat_may8 (A : List Nat) (es : List El) (hA : A.contains 99 = false) {c : List Nat} {m : Nat} (hm : m≤c.length) (h8 : skH [8] (c.take m).reverse = (c.take m).reverse) (m' : Nat) (hm' : m' = if A.contains ((c.take m).reverse.head?.getD 99) then lPast (toI c) ((8 : Nat) : Int) (m - 1) else m) :
  eat (.may A :: .many [8] :: es) (c.take m).reverse = eat es (c.take m').reverse∧skH [8] (c.take m').reverse = (c.take m').reverse∧m'≤c.length:=by
 cases m with
 | zero =>
  rw [show (c.take 0).reverse.head?.getD 99 = 99 by simp,hA] at hm'
  simp only [Bool.false_eq_true,if_false] at hm'
  subst hm'
  refine ⟨?_,h8,hm⟩
  simp only [List.take_zero,List.reverse_nil]
  rw [eat,eat];rfl
 | succ m =>
  rw [ahead_succ (by omega)] at h8 hm' ⊢
  rw [List.head?_cons,Option.getD_some,Nat.add_sub_cancel] at hm'
  rw [eat]
  by_cases hx : A.contains (c.getD m 0) = true
  ·rw [if_pos hx] at hm' ⊢
   have hl:=lPast_le (toI c) ((8 : Nat) : Int) m
   have hp:=past_drop c 8 m (by omega)
   rw [← hm'] at hl hp
   rw [eat]
   rw [hp]
   exact ⟨rfl,skH_twice _ _,by omega⟩
  ·rw [if_neg hx] at hm' ⊢
   subst hm'
   rw [ahead_succ (by omega),eat]
   exact ⟨congrArg (eat es) h8,h8,by omega⟩
theorem toW_in2 (x a b : Nat) (ha : a < 99) (hb : b < 99) : [(a : Int),(b : Int)].contains (toW x) = [b,a].contains x:=by
 have h1:=toW_eq x a ha
 have h2:=toW_eq x b hb
 rw [Bool.eq_iff_iff] at h1 h2
 simp only [beq_iff_eq] at h1 h2
 rw [Bool.eq_iff_iff]
 simp only [List.contains_iff_mem,List.mem_cons,List.not_mem_nil,or_false]
 rw [h1,h2]
 exact or_comm
theorem num_eq {c : List Nat} (hc : ∀ x ∈ c,x < 26) {n : Nat} (hn : n≤c.length) : lNum (toI c) n = eat numE (c.take n).reverse:=by
 have hp:=past_drop c 8 n hn
 have hl:=lPast_le (toI c) ((8 : Nat) : Int) n
 have h1 : ∀ m,m≤c.length→([11,10] : List Int).contains (lLast (toI c) m) = [10,11].contains ((c.take m).reverse.head?.getD 99):=fun m hm=>by
  rw [last_eq hc hm];exact toW_in2 _ 11 10 (by omega) (by omega)
 have h2 : ∀ m,m≤c.length→([14,15] : List Int).contains (lLast (toI c) m) = [14,15].contains ((c.take m).reverse.head?.getD 99):=fun m hm=>by
  rw [last_eq hc hm]
  rw [show ([14,15] : List Int).contains (toW ((c.take m).reverse.head?.getD 99)) = ([15,14] : List Nat).contains ((c.take m).reverse.head?.getD 99) from toW_in2 _ 14 15 (by omega) (by omega)]
  rw [Bool.eq_iff_iff];simp [or_comm]
 unfold lNum numE
 rw [eat]
 rw [show List.dropWhile (fun x=>[8].contains x) (c.take n).reverse = (c.take (lPast (toI c) ((8 : Nat) : Int) n)).reverse from hp.symm]
 have t1 : skH [8] (c.take (lPast (toI c) ((8 : Nat) : Int) n)).reverse = (c.take (lPast (toI c) ((8 : Nat) : Int) n)).reverse:=by rw [hp,skH_twice]
 change (lLast (toI c) (if ([14,15] : List Int).contains (lLast (toI c) (if ([11,10] : List Int).contains (lLast (toI c) (lPast (toI c) ((8 : Nat) : Int) n)) then lPast (toI c) ((8 : Nat) : Int) (lPast (toI c) ((8 : Nat) : Int) n - 1) else lPast (toI c) ((8 : Nat) : Int) n)) then lPast (toI c) ((8 : Nat) : Int) ((if ([11,10] : List Int).contains (lLast (toI c) (lPast (toI c) ((8 : Nat) : Int) n)) then lPast (toI c) ((8 : Nat) : Int) (lPast (toI c) ((8 : Nat) : Int) n - 1) else lPast (toI c) ((8 : Nat) : Int) n) - 1) else (if ([11,10] : List Int).contains (lLast (toI c) (lPast (toI c) ((8 : Nat) : Int) n)) then lPast (toI c) ((8 : Nat) : Int) (lPast (toI c) ((8 : Nat) : Int) n - 1) else lPast (toI c) ((8 : Nat) : Int) n)) == 20) = _
 generalize lPast (toI c) ((8 : Nat) : Int) n = n1 at hl t1 ⊢
 have hn1 : n1≤c.length:=by omega
 rw [h1 n1 hn1]
 obtain ⟨e1,t2,hn2⟩:=eat_may8 [10,11] [.may [14,15],.many [8],.one [20]] rfl hn1 t1 _ rfl
 rw [e1]
 generalize (if [10,11].contains ((c.take n1).reverse.head?.getD 99) = true then lPast (toI c) ((8 : Nat) : Int) (n1 - 1) else n1) = n2 at t2 hn2 ⊢
 rw [h2 n2 hn2]
 obtain ⟨e2,t3,hn3⟩:=eat_may8 [14,15] [.one [20]] rfl hn2 t2 _ rfl
 rw [e2]
 generalize (if [14,15].contains ((c.take n2).reverse.head?.getD 99) = true then lPast (toI c) ((8 : Nat) : Int) (n2 - 1) else n2) = n3 at t3 hn3 ⊢
 rw [last_eq hc hn3]
 have h20:=toW_eq ((c.take n3).reverse.head?.getD 99) 20 (by omega)
 rw [show (toW ((c.take n3).reverse.head?.getD 99) == 20) = (toW ((c.take n3).reverse.head?.getD 99) == ((20 : Nat) : Int)) from rfl,h20]
 cases (c.take n3).reverse with
 | nil=>simp [eat]
 | cons x t=>rw [Bool.eq_iff_iff];simp [eat]
theorem onlyM_near {r : List Nat} (hr : r ≠ []) (h : ∀ x ∈ r,x < 26) : onlyM r = (nearH [8] r == 99):=by
 unfold onlyM nearH
 have h0 : r.isEmpty = false:=by cases r with | nil=>exact absurd rfl hr | cons=>rfl
 rw [h0,Bool.not_false,Bool.true_and]
 cases hd : skH [8] r with
 | nil =>
  have h1 : r.all (fun x=>x == 8) = true:=by
   rw [List.all_eq_true]
   intro x hx
   have h3 : r = r.takeWhile (fun x=>[8].contains x)++r.dropWhile (fun x=>[8].contains x):=List.takeWhile_append_dropWhile.symm
   rw [show r.dropWhile (fun x=>[8].contains x) = [] from hd,List.append_nil] at h3
   rw [h3] at hx
   have:=take_in [8] r x hx
   simpa using this
  rw [h1];rfl
 | cons y t =>
  have hy : y ∈ r:=(List.dropWhile_suffix _).subset (show y ∈ skH [8] r by rw [hd];simp)
  have h1:=skH_head hd
  have h2 : r.all (fun x=>x == 8) = false:=Bool.eq_false_iff.2 fun h=>by
   have:=List.all_eq_true.1 h y hy
   rw [beq_iff_eq] at this
   subst this
   cases h1
  rw [h2]
  have:=h y hy
  simp only [List.head?_cons,Option.getD_some]
  symm
  rw [beq_eq_false_iff_ne]
  omega
def head20 : List Nat→Bool
 | []=>false
 | y :: _=>y == 20
theorem chain_L {r b : List Nat} {p q : Nat} {t : List Nat} {s : List Nat} (hr : r = p :: s) (hb : b = q :: t) (hin : ∀ x ∈ r,x < 26) :
  decF true r b testsL = headL p q ([5].contains (nearH [4] r)) (gluT p (nearH [8] r) q || ovrT (nearH [8] (skH [4] r)) q) (letT (nearH [8] r) q (eat numE r) (head20 t) (regR [8] 25 r % 2 == 1)):=by
 have e1:=fun l (h : l.contains 99 = false)=>eat_near1 [8] l r h
 have e2:=fun l (h : l.contains 99 = false)=>eat_near1 [4] l r h
 have e3 : ∀ l,l.contains 99 = false→eat [.many [4],.many [8],.one l] r = l.contains (nearH [8] (skH [4] r)):=fun l h=>by
  rw [eat];exact eat_near1 [8] l _ h
 have f1 : ∀ l,eat [.one l] r = l.contains p:=fun l=>by rw [hr];simp [eat]
 have g1 : ∀ l,eat [.one l] b = l.contains q:=fun l=>by rw [hb];simp [eat]
 have g2 : eat [.may [9,16],.one [20]] b = if [9,16].contains q then (head20 t) else [20].contains q:=by
  rw [hb,eat]
  split
  ·cases t with
   | nil=>rfl
   | cons y t=>rw [Bool.eq_iff_iff];simp [eat,head20]
  ·simp [eat]
 have z1 : ∀ r,eat [] r = true:=fun r=>by rw [eat]
 have hm:=onlyM_near (r:=r) (by rw [hr];simp) hin
 have ho:=odd_both (hs:=[8]) (cs:=[0,1,2,3,4,5,6,7,9,10,11,12,13,14,15,16,17,18,19,20,21,22,23,24]) (k:=25) (by decide) (r:=r) (fun x hx=>by
  have hx:=hin x hx
  have h : (List.range 26).all (fun x=>[0,1,2,3,4,5,6,7,9,10,11,12,13,14,15,16,17,18,19,20,21,22,23,24].contains x || isF [8] 25 x) = true:=by decide
  rw [List.all_eq_true] at h
  have h:=h x (by simpa using hx)
  rw [Bool.or_eq_true,List.contains_iff_mem] at h
  exact h)
 unfold testsL
 simp only [decF]
 simp only [e1 [6] rfl,e1 [7] rfl,e1 [0,1,2,3,5,6,7,9,10,11,12,13,14,15,18,19,20,21,22,23,24,25] rfl,e1 [12] rfl,e1 [0] rfl,e1 [20] rfl,e1 [22] rfl,e1 [23] rfl,e1 [21,22] rfl,e1 [14,15,16,20] rfl,e1 [14] rfl,e1 [0,20] rfl,e1 [10] rfl]
 simp only [e2 [5] rfl,e3 [9] rfl,e3 [12] rfl,e3 [10,11] rfl,e3 [18] rfl,g2,hm]
 simp only [f1,g1,z1,Bool.and_true,Bool.true_and]
 rw [← ho]
 unfold headL gluT ovrT letT
 generalize nearH [8] r = a
 generalize nearH [8] (skH [4] r) = w
 generalize nearH [4] r = z
 generalize eat numE r = num
 generalize (head20 t) = nx
 generalize oddA [8] 25 r = o1
 generalize oddB [8] 25 _ r = o2
 simp only [or_ite]
 simp only [Bool.or_assoc,Bool.and_or_distrib_right]
theorem rules_line {c : List Nat} (hc : ∀ x ∈ c,x < 26) {i : Nat} (h0 : 0 < i) (hi : i < c.length) : decideB true c i rulesL = lCut (toI c) i:=by
 rw [decide_F true c i eats_L]
 obtain ⟨k,rfl⟩ : ∃ k,i = k+1:=⟨i - 1,by omega⟩
 have e1 : c.getD k 0 = c[k]'(by omega):=by rw [List.getD_eq_getElem?_getD,List.getElem?_eq_getElem (by omega)];rfl
 have e2 : c.getD (k+1) 0 = c[k+1]'hi:=by rw [List.getD_eq_getElem?_getD,List.getElem?_eq_getElem hi];rfl
 have hp : c.getD k 0 < 26:=by rw [e1];exact hc _ (List.getElem_mem _)
 have hq : c.getD (k+1) 0 < 26:=by rw [e2];exact hc _ (List.getElem_mem _)
 have hin : ∀ x ∈ (c.take (k+1)).reverse,x ∈ c:=fun x hx=>List.mem_of_mem_take (by simpa using hx)
 rw [chain_L (ahead_succ (by omega)) (show c.drop (k+1) = c.getD (k+1) 0 :: c.drop (k+2) by rw [List.drop_eq_getElem_cons hi,e2]) (fun x hx=>hc x (hin x hx))]
 rw [headL_eq hp hq,gluT_eq hp (head_cls hc hin _) (near_not rfl (by omega)) hq,ovrT_eq (w:=nearH [8] (skH [4] (c.take (k+1)).reverse)) (head_cls hc (fun x hx=>hin x ((List.dropWhile_suffix _).subset hx)) _) hq,letT_eq (head_cls hc hin _) hq]
 have n8:=nearL_eq hc 8 (n:=k+1) (by omega)
 have n4:=nearL_eq hc 4 (n:=k+1) (by omega)
 have hov : overL (toW (nearH [8] (skH [4] (c.take (k+1)).reverse))) ((c.getD (k+1) 0 : Nat) : Int) = lOver (toI c) (k+1) ((c.getD (k+1) 0 : Nat) : Int):=by
  have hl:=lPast_le (toI c) ((4 : Nat) : Int) (k+1)
  have h1:=nearL_eq hc 8 (n:=lPast (toI c) ((4 : Nat) : Int) (k+1)) (by omega)
  rw [past_drop c 4 (k+1) (by omega)] at h1
  rw [← h1];rfl
 have hzw : [5].contains (nearH [4] (c.take (k+1)).reverse) = decide (lLast (toI c) (lPast (toI c) ((4 : Nat) : Int) (k+1)) = 5):=by
  rw [n4]
  have h5 : toW (nearH [4] (c.take (k+1)).reverse) = 5 ↔ nearH [4] (c.take (k+1)).reverse = 5:=toW_iff _ 5 (by omega)
  rw [Bool.eq_iff_iff,decide_eq_true_iff,List.contains_iff_mem,List.mem_singleton]
  exact h5.symm
 have hnx : head20 (c.drop (k+2)) = (decide (k+1+1 < (toI c).length) && (toI c).getD (k+1+1) 0 == 20):=by
  rw [toI_len,toI_get]
  by_cases h2 : k+2 < c.length
  ·rw [List.drop_eq_getElem_cons h2,decide_eq_true (by omega : k+1+1 < c.length),Bool.true_and,List.getD_eq_getElem?_getD,List.getElem?_eq_getElem h2,Option.getD_some]
   rw [Bool.eq_iff_iff,head20,beq_iff_eq,beq_iff_eq]
   omega
  ·rw [List.drop_eq_nil_of_le (by omega),decide_eq_false (by omega)];rfl
 have hrg : (regR [8] 25 (c.take (k+1)).reverse % 2 == 1) = (lReg (toI c) (k+1) % 2 == 1):=by
  unfold lReg
  rw [regL_eq hc _ _ (by omega) (by omega)]
 rw [hov,hzw,hnx,hrg,← num_eq hc (by omega),← n8]
 unfold lCut cutL lettL lLetters
 simp only [toI_get,Nat.add_sub_cancel]
 generalize lNum (toI c) (k+1) = num
 generalize lReg (toI c) (k+1) = rg
 generalize lOver (toI c) (k+1) _ = ov
 change _ = (if _ then false else if _ then true else if _ then false else if lLast (toI c) (lPast (toI c) ((4 : Nat) : Int) (k+1)) = 5 then true else if lGlued _ (lLast (toI c) (lPast (toI c) ((8 : Nat) : Int) (k+1))) _ || ov then false else if _ then true else _)
 generalize lLast (toI c) (lPast (toI c) ((8 : Nat) : Int) (k+1)) = b
 generalize lLast (toI c) (lPast (toI c) ((4 : Nat) : Int) (k+1)) = z
 simp only [decide_eq_true_eq,Bool.and_assoc,Bool.or_assoc]
end Go.Proofs.YtdngkienloligaaGreatDoor
/- -/
namespace Go.Proofs.YtdngkienloligaaGreatDoor
def lineB (s : ByteArray) : List Nat:=boundsX (fun c i=>lCut (toI c) i) gL s
theorem lineB_rules (s : ByteArray) : boundsM rulesL true gL s = lineB s:=by
 unfold boundsM lineB
 exact boundsX_congr (z:=26) gL_lt (fun c i hc h0 hi=>by rw [decideM_eq true h0 hi,rules_line hc h0 hi]) s
theorem contig_at : ∀ {l : List (Nat × Nat × Nat)} {p z : Nat},Contig p l z→∀ {k : Nat} {x : Nat × Nat × Nat},l[k]? = some x→(∃ y,l[k+1]? = some y∧y.2.1 = x.2.2)∨(k+1 = l.length∧x.2.2 = z)
 | [],_,_,_,_,_,h=>by simp at h
 | [a],p,z,hc,k,x,h=>by
  obtain ⟨_,_,hz⟩:=hc
  cases k with
  | zero=>simp at h;subst h;exact .inr ⟨rfl,hz⟩
  | succ k=>simp at h
 | a :: b :: r,p,z,hc,k,x,h=>by
  obtain ⟨_,_,h3⟩:=hc
  cases k with
  | zero=>simp at h;subst h;exact .inl ⟨b,rfl,h3.1⟩
  | succ k =>
   rcases contig_at h3 (k:=k) (x:=x) (by simpa using h) with ⟨y,h1,h2⟩ | ⟨h1,h2⟩
   ·exact .inl ⟨y,by simpa using h1,h2⟩
   ·exact .inr ⟨by simp at h1 ⊢;omega,h2⟩
theorem lineB_rise (s : ByteArray) : (lineB s).Pairwise (· < ·):=by
 unfold lineB boundsX
 split
 ·exact List.Pairwise.nil
 ·rw [List.pairwise_append]
  refine ⟨pick_rise (runes_rise s),List.pairwise_singleton _ _,fun a ha b hb=>?_⟩
  rw [List.mem_singleton] at hb
  subst hb
  obtain ⟨k,x,hx,_,rfl⟩:=pickG_mem.1 ha
  have:=runesP_bd x (List.mem_of_getElem? hx)
  omega
theorem lineB_len (s : ByteArray) : (lineB s).length≤s.size+1:=by
 have h : ∀ (r : List (Nat × Nat × Nat)) (t : List Bool),(pickG r t).length≤r.length:=fun r=>by
  induction r with
  | nil=>intro t;cases t <;> simp [pickG]
  | cons x r ih =>
   intro t
   cases t with
   | nil=>simp [pickG]
   | cons b t=>rw [pickG,List.length_append,List.length_cons];have:=ih t;split <;> simp <;> omega
 unfold lineB boundsX
 split
 ·simp
 ·rw [List.length_append]
  have:=h (runesP s) ((List.range (runesP s).length).map fun i=>decide (i = 0) || lCut (toI (clsG gL (runesP s))) i)
  have:=runesP_len s
  simp only [List.length_singleton]
  omega
theorem lineB_at {s : ByteArray} {k : Nat} {y : Nat × Nat × Nat} (hy : (runesP s)[k+1]? = some y) : y.2.1 ∈ lineB s ↔ lCut (lCls gL s) (k+1) = true:=by
 have hc : lCls gL s = toI (clsG gL (runesP s)):=by unfold lCls toI clsG;rw [List.map_map];rfl
 have hb:=runesP_bd y (List.mem_of_getElem? hy)
 obtain ⟨hk,ey⟩:=List.getElem?_eq_some_iff.1 hy
 have hz : s.size ≠ 0:=by omega
 unfold lineB boundsX
 rw [if_neg hz,List.mem_append,List.mem_singleton,pickG_mem]
 simp only
 rw [← hc]
 constructor
 ·rintro (⟨j,x,hx,ht,e⟩ | h)
  ·have hj : j = k+1:=by
    obtain ⟨hj,ex⟩:=List.getElem?_eq_some_iff.1 hx
    have hp:=List.pairwise_iff_getElem.1 (runes_rise s)
    rcases Nat.lt_trichotomy j (k+1) with h | h | h
    ·have:=hp j (k+1) hj hk h;rw [ex,ey] at this;omega
    ·exact h
    ·have:=hp (k+1) j hk hj h;rw [ex,ey] at this;omega
   subst hj
   rw [List.getElem?_map,List.getElem?_range hk] at ht
   simpa using ht
  ·omega
 ·intro h
  refine .inl ⟨k+1,y,hy,?_,rfl⟩
  rw [List.getElem?_map,List.getElem?_range hk]
  simp [h]
def chD (s : ByteArray) (k : Nat) : List (Nat × Bool):=if k < (runesP s).length then lPick (lCls gL s) 0 (((runesP s).map (·.2.1)).take (k+1)) else lChances gL s
theorem runes_none {s : ByteArray} : (runesP s).length = 0 ↔ s.size = 0:=by
 constructor
 ·intro h
  have:=runesP_contig s
  rw [List.length_eq_zero_iff.1 h] at this
  exact this.symm
 ·intro h
  have:=runesP_len s
  omega
theorem chD_zero (s : ByteArray) : chD s 0 = []:=by
 unfold chD
 by_cases h : 0 < (runesP s).length
 ·rw [if_pos h]
  cases (runesP s).map (·.2.1) with
  | nil=>rfl
  | cons a r=>simp [lPick]
 ·rw [if_neg h]
  have h0 : (runesP s).length = 0:=by omega
  have h1:=runes_none.1 h0
  unfold lChances
  rw [if_pos h1,List.length_eq_zero_iff.1 h0];rfl
theorem chD_step {s : ByteArray} {k : Nat} {x : Nat × Nat × Nat} (hx : (runesP s)[k]? = some x) :
  chD s (k+1) = chD s k++(if x.2.2 ∈ lineB s then [(x.2.2,x.2.2 == s.size || lMust (gL x.1))] else []):=by
 obtain ⟨hk,ex⟩:=List.getElem?_eq_some_iff.1 hx
 have hb:=runesP_bd x (List.mem_of_getElem? hx)
 have e0 : chD s k = lPick (lCls gL s) 0 (((runesP s).map (·.2.1)).take (k+1)):=by unfold chD;rw [if_pos hk]
 rw [e0]
 rcases contig_at (runesP_contig s) hx with ⟨y,hy,e⟩ | ⟨hl,e⟩
 ·obtain ⟨hk1,ey⟩:=List.getElem?_eq_some_iff.1 hy
  have hby:=runesP_bd y (List.mem_of_getElem? hy)
  unfold chD
  rw [if_pos hk1,List.take_add_one,List.getElem?_map,hy]
  simp only [Option.map_some,Option.toList_some]
  rw [lPick_append,Nat.zero_add,List.length_take,List.length_map,Nat.min_eq_left (by omega),lPick,lPick,List.append_nil,← e]
  have hm:=lineB_at hy
  have hg : (lCls gL s).getD (k+1 - 1) 0 = (gL x.1 : Int):=by
   rw [List.getD_eq_getElem?_getD,Nat.add_sub_cancel];unfold lCls;rw [List.getElem?_map,hx];rfl
  have hne : (y.2.1 == s.size) = false:=by rw [beq_eq_false_iff_ne];omega
  rw [hg,hne,Bool.false_or]
  congr 1
  by_cases hc : lCut (lCls gL s) (k+1) = true
  ·rw [if_pos ⟨by omega,hc⟩,if_pos (hm.2 hc)]
  ·rw [if_neg (fun h=>hc h.2),if_neg (fun h=>hc (hm.1 h))]
 ·unfold chD
  have hz : s.size ≠ 0:=by omega
  rw [if_neg (by omega),List.take_of_length_le (by rw [List.length_map];omega),if_pos (by
   unfold lineB boundsX;rw [if_neg hz,e];simp)]
  unfold lChances
  rw [if_neg hz,e]
  simp
theorem chD_end (s : ByteArray) : chD s (runesP s).length = lChances gL s:=by unfold chD;rw [if_neg (by omega)]
theorem chD_len (s : ByteArray) : ∀ k,(chD s k).length≤s.size+1:=fun k=>by
 have h : ∀ (P : List Nat) (i : Nat),(lPick (lCls gL s) i P).length≤P.length:=fun P=>by
  induction P with
  | nil=>intro i;simp [lPick]
  | cons a r ih=>intro i;rw [lPick,List.length_append,List.length_cons];have:=ih (i+1);split <;> simp <;> omega
 have hl:=runesP_len s
 unfold chD
 split
 ·have:=h (((runesP s).map (·.2.1)).take (k+1)) 0
  rw [List.length_take,List.length_map] at this
  omega
 ·unfold lChances
  rw [List.length_append]
  have:=h ((runesP s).map (·.2.1)) 0
  rw [List.length_map] at this
  split <;> simp <;> omega
theorem first_mem {B : List Nat} {z j : Nat} (hB : B.Pairwise (· < ·)) (hlo : ∀ i b,i < j→B[i]? = some b→b < z) (hhi : ∀ b,B[j]? = some b→z≤b) : z ∈ B ↔ B[j]? = some z:=by
 constructor
 ·intro h
  obtain ⟨i,hi⟩:=List.getElem?_of_mem h
  obtain ⟨hi1,ei⟩:=List.getElem?_eq_some_iff.1 hi
  rcases Nat.lt_trichotomy i j with h1 | h1 | h1
  ·have:=hlo i z h1 hi;omega
  ·rw [← h1];exact hi
  ·have hj : j < B.length:=by omega
   have:=hhi B[j] (List.getElem?_eq_getElem hj)
   have:=List.pairwise_iff_getElem.1 hB j i hj hi1 h1
   omega
 ·exact List.mem_of_getElem?
end Go.Proofs.YtdngkienloligaaGreatDoor
/- -/
namespace Go.Proofs.YtdngkienloligaaGreatDoor
open Go.RowKit
def NoneTo (p : Int→Bool) (l : List Int) (j : Nat) : Prop:=∀ k x,k < j→l[k]? = some x→p x = false
theorem noneTo_first (p : Int→Bool) (l : List Int) : NoneTo p l 0:=fun k x hk=>by omega
theorem noneTo_next {p : Int→Bool} {l : List Int} {j : Nat} {x : Int} (h : NoneTo p l j) (hx : l[j]? = some x) (hp : p x = false) : NoneTo p l (j+1):=fun k y hk hy=>by
 rcases (by omega : k < j∨k = j) with h1 | rfl
 ·exact h k y h1 hy
 ·rw [hx] at hy;injection hy with hy;rw [← hy];exact hp
theorem noneTo_end {p : Int→Bool} {l : List Int} {j : Nat} (h : NoneTo p l j) (hj : ¬ j < l.length) : l.any p = false:=by
 rw [List.any_eq_false]
 intro x hx
 obtain ⟨k,hk,e⟩:=List.getElem_of_mem hx
 rw [h k x (by omega) (by rw [List.getElem?_eq_getElem hk,e])]
 simp
theorem any_here {p : Int→Bool} {l : List Int} {j : Nat} {x : Int} (hx : l[j]? = some x) (hp : p x = true) : l.any p = true:=List.any_eq_true.2 ⟨x,List.mem_of_getElem? hx,hp⟩
theorem ge_nat (j : Nat) : decide (0≤(j : Int)) = true:=decide_eq_true (by omega)
set_option maxRecDepth 100000 in
set_option maxHeartbeats 2000000 in
theorem lIndexI_any (A : Option Addr) (n c : Nat) (l : List Int) (x : Int) (w : World) (hA : Rd w 1 A (l.map encZ)) (hl : l.length = n) (hn : n≤4000000) :
  Calls Tryz.prog 160 #[.slice A n c,.int .i64 x] w fun e w'=>∃ v : Int,e = .returned (.int .i64 v)∧decide (0≤v) = l.any (x == ·)∧w = w':=by
 have Hl:=Lib.hid hl
 clear hl
 go_enter Tryz.func160,Tryz.ntmps160
 go_wp2
 go_loopw [8] (fun v wr=>∃ j : Nat,v = .int .i64 j∧j≤n∧Hid (NoneTo (x == ·) l j)∧wr = w) (fun v _=>n - (intOf v).toNat)
 case atStart=>exact ⟨0,rfl,by omega,Lib.hid (noneTo_first _ l),rfl⟩
 case round =>
  obtain ⟨j,rfl,hj,HN,rfl⟩:=hrel
  by_cases hlt : j < n
  ·obtain ⟨y,Hy⟩ : ∃ y,Hid (l[j]? = some y):=⟨_,Lib.hid (List.getElem?_eq_getElem (by have:=Hl.out;omega))⟩
   obtain ⟨b,off,rfl,hc⟩:=hA.atZ Hy.out
   obtain ⟨q,Hq⟩ : ∃ q,Hid ((x == ·) y = q):=⟨_,Lib.hid rfl⟩
   cases q with
   | true =>
    have HV:=Lib.hid (any_here Hy.out Hq.out)
    have he:=Hq.out
    go_wp2
    go_ret
    exact ⟨j,rfl,by rw [HV.out];exact ge_nat j,rfl⟩
   | false =>
    have HN':=Lib.hid (noneTo_next HN.out Hy.out Hq.out)
    have he:=Hq.out
    go_wp2
    go_roundw
    case rel=>exact ⟨j+1,by go_num,by omega,HN',trivial⟩
    case measure=>simp [intOf];omega
  ·have HV:=Lib.hid (noneTo_end HN.out (by rw [Hl.out];exact hlt))
   go_wp2
   go_ret
   exact ⟨-1,rfl,by rw [HV.out];rfl,rfl⟩
set_option maxHeartbeats 1000000 in
theorem lContains_any (A : Option Addr) (n c : Nat) (l : List Int) (x : Int) (w : World) (hA : Rd w 1 A (l.map encZ)) (hl : l.length = n) (hn : n≤4000000) :
  Calls Tryz.prog 108 #[.slice A n c,.int .i64 x] w fun e w'=>e = .returned (.bool (l.any (x == ·)))∧w = w':=by
 have HI:=Lib.hid (lIndexI_any A n c l x w hA hl hn)
 clear hA hl
 go_enter Tryz.func108,Tryz.ntmps108
 go_wp2_with fail
 refine HI.out.mono ?_
 rintro e w1 ⟨v,rfl,hv,rfl⟩
 have HV:=Lib.hid hv
 clear hv HI
 go_wp2
 go_ret
 exact ⟨by rw [← HV.out];rfl,rfl⟩
end Go.Proofs.YtdngkienloligaaGreatDoor
/- -/
namespace Go.Proofs.YtdngkienloligaaGreatDoor
open Go.RowKit
theorem Rd.lits (W : World) (t : TypeId) (xs : List Int) : Rd (W.alloc (.cells (xs.map (Value.int .i64)).toArray t)) 1 (some ⟨W.heap.size,0,none⟩) (xs.map encZ):=fun _ =>
 ⟨W.heap.size,0,rfl,fun k j x u hx hu=>by
  have hb:=(Blk.new W t (xs.map (Value.int .i64)).toArray).cell (0+k*1+j)
  rw [hb]
  rw [List.getElem?_map] at hx
  cases hq : xs[k]? with
  | none=>rw [hq] at hx;cases hx
  | some y =>
   rw [hq] at hx
   simp at hx
   subst hx
   match j,hu with
   | 0,hu=>simp [encZ] at hu;subst hu;simp [hq]
   | j+1,hu=>simp [encZ] at hu⟩
set_option maxHeartbeats 1000000 in
theorem tamong_lit (c : Int) (xs : List Int) (n : Nat) (W : World) (arr : Array Value) (harr : arr = (xs.map (Value.int .i64)).toArray) (hn : xs.length = n) (hz : n≤10) :
  Calls Tryz.prog 164 #[.int .i64 c,.slice (some ⟨W.heap.size,0,none⟩) n n] (W.alloc (.cells arr 3)) fun e w'=>e = .returned (.bool (xs.contains c))∧W.alloc (.cells arr 3) = w':=by
 subst harr
 have HC:=Lib.hid (lContains_any (some ⟨W.heap.size,0,none⟩) n n xs c _ (Rd.lits W 3 xs) hn (by omega))
 rw [show (xs.any fun x=>c == x) = xs.contains c from (List.contains_eq_any_beq).symm] at HC
 generalize W.alloc (.cells (xs.map (Value.int .i64)).toArray 3) = W1 at HC
 generalize xs.contains c = r at HC
 go_enter Tryz.func164,Tryz.ntmps164
 go_wp2_with (go_at_call 108;refine HC.out.mono ?_;rintro e w' ⟨rfl,rfl⟩)
 go_ret
 exact ⟨rfl,rfl⟩
set_option maxRecDepth 100000 in
set_option maxHeartbeats 2000000 in
theorem tpast_any (A B : Option Addr) (na ca n cb : Nat) (c : List Int) (i : Nat) (k : Int) (w : World) (hB : Rd w 1 B (c.map encZ)) (hl : c.length = n) (hi : i≤n) (hn : n≤4000000) :
  Calls Tryz.prog 163 #[.agg #[.slice A na ca,.slice B n cb],.int .i64 i,.int .i64 k] w fun e w'=>e = .returned (.int .i64 (lPast c k i : Nat))∧Below w.heap.size w w':=by
 have Hl:=Lib.hid hl
 clear hl
 have hBz : Below w.heap.size w (w.alloc (.cells #[.slice A na ca,.slice B n cb] 113)):=(Below.refl _ _).alloc (Nat.le_refl _) _
 have hK:=Blk.new w 113 #[.slice A na ca,.slice B n cb]
 have k1:=hK.cell 1
 simp only [List.getElem?_toArray,List.getElem?_cons_zero,List.getElem?_cons_succ] at k1
 go_enter Tryz.func163,Tryz.ntmps163
 go_wp2
 go_loopw [1] (fun v wr=>∃ j : Nat,v = .int .i64 j∧j≤i∧Hid (lPast c k j = lPast c k i)∧wr = w.alloc (.cells #[.slice A na ca,.slice B n cb] 113)) (fun v _=>(intOf v).toNat)
 case atStart=>exact ⟨i,rfl,Nat.le_refl _,Lib.hid rfl,rfl⟩
 case round =>
  obtain ⟨j,rfl,hj,HW,rfl⟩:=hrel
  by_cases h0 : 0 < j
  ·obtain ⟨j,rfl⟩ : ∃ m,j = m+1:=⟨j - 1,by omega⟩
   obtain ⟨x,Hx⟩ : ∃ x,Hid (c[j]? = some x):=⟨_,Lib.hid (List.getElem?_eq_getElem (by have:=Hl.out;omega))⟩
   obtain ⟨b,off,rfl,hc⟩:=hB.atZ Hx.out
   have hc:=cell_keep hc hBz
   have e1 : ((j+1 : Nat) : Int) - 1 = (j : Int):=by omega
   have HS : Hid (lPast c k (j+1) = if x = k then lPast c k j else j+1):=Lib.hid (by rw [lPast,getD_of Hx.out])
   obtain ⟨q,hq⟩ : ∃ q,(x == k) = q:=⟨_,rfl⟩
   cases q with
   | true =>
    have HW' : Hid (lPast c k j = lPast c k i):=Lib.hid (by rw [← HW.out,HS.out,if_pos (beq_iff_eq.1 hq)])
    go_wp2
    go_roundw
    case rel=>exact ⟨j,by go_num,by omega,HW',trivial⟩
    case measure=>simp [intOf]
   | false =>
    have HV : Hid (lPast c k i = j+1):=Lib.hid (by rw [← HW.out,HS.out,if_neg (beq_eq_false_iff_ne.1 hq)])
    go_wp2
    go_ret
    exact ⟨by rw [HV.out];rfl,hBz⟩
  ·have HV : Hid (lPast c k i = j):=Lib.hid (by rw [← HW.out,show j = 0 by omega];rfl)
   have h1 : ¬ (0 : Int) < (j : Int):=by omega
   go_wp2
   go_ret
   exact ⟨by rw [HV.out];rfl,hBz⟩
set_option maxRecDepth 100000 in
set_option maxHeartbeats 1000000 in
theorem tlast_any (A B : Option Addr) (na ca n cb : Nat) (c : List Int) (i : Nat) (w : World) (hB : Rd w 1 B (c.map encZ)) (hl : c.length = n) (hi : i≤n) (hn : n≤4000000) :
  Calls Tryz.prog 162 #[.agg #[.slice A na ca,.slice B n cb],.int .i64 i] w fun e w'=>e = .returned (.int .i64 (lLast c i))∧Below w.heap.size w w':=by
 have hBz : Below w.heap.size w (w.alloc (.cells #[.slice A na ca,.slice B n cb] 113)):=(Below.refl _ _).alloc (Nat.le_refl _) _
 have hK:=Blk.new w 113 #[.slice A na ca,.slice B n cb]
 have k1:=hK.cell 1
 simp only [List.getElem?_toArray,List.getElem?_cons_zero,List.getElem?_cons_succ] at k1
 by_cases h : i = 0
 ·have HV : Hid (lLast c i = -1):=Lib.hid (by unfold lLast;rw [if_pos h])
  have e0 : ((i : Int) == 0) = true:=by rw [h];rfl
  clear h
  go_enter Tryz.func162,Tryz.ntmps162
  go_wp2
  go_ret
  exact ⟨by rw [HV.out];rfl,hBz⟩
 ·obtain ⟨j,rfl⟩ : ∃ m,i = m+1:=⟨i - 1,by omega⟩
  obtain ⟨x,Hx⟩ : ∃ x,Hid (c[j]? = some x):=⟨_,Lib.hid (List.getElem?_eq_getElem (by omega))⟩
  obtain ⟨b,off,rfl,hc⟩:=hB.atZ Hx.out
  have hc:=cell_keep hc hBz
  have HV : Hid (lLast c (j+1) = x):=Lib.hid (by rw [lLast_succ,getD_of Hx.out])
  have e1 : ((j+1 : Nat) : Int) - 1 = (j : Int):=by omega
  have e0 : (((j+1 : Nat) : Int) == 0) = false:=beq_eq_false_iff_ne.2 (by omega)
  have e2 : ((j : Int)+1 == 0) = false:=beq_eq_false_iff_ne.2 (by omega)
  clear h hl
  go_enter Tryz.func162,Tryz.ntmps162
  go_wp2
  go_ret
  exact ⟨by rw [HV.out];rfl,hBz⟩
def LegAt (c : List Int) (i k m : Nat) : Prop:=m≤i∧k+m≤i∧∃ f,m < f∧k+lRegGo c f m = lReg c i
theorem legAt_first (c : List Int) (i : Nat) : LegAt c i 0 (lPast c 8 i):=⟨lPast_le c 8 i,by have:=lPast_le c 8 i;omega,i+1,by have:=lPast_le c 8 i;omega,by rw [Nat.zero_add];rfl⟩
theorem lLast_pos {c : List Int} {m : Nat} {x : Int} (h : lLast c m = x) (hx : 0≤x) : 0 < m:=by
 rcases Nat.eq_zero_or_pos m with rfl | h0
 ·unfold lLast at h;rw [if_pos rfl] at h;omega
 ·exact h0
theorem legAt_next {c : List Int} {i k m : Nat} (h : LegAt c i k m) (h7 : lLast c m = 25) : LegAt c i (k+1) (lPast c 8 (m - 1)):=by
 obtain ⟨h1,h2,f,hf,hk⟩:=h
 have h0:=lLast_pos h7 (by omega)
 have hp:=lPast_le c 8 (m - 1)
 cases f with
 | zero=>omega
 | succ f =>
  rw [lRegGo,if_pos h7] at hk
  exact ⟨by omega,by omega,f,by omega,by omega⟩
theorem legAt_end {c : List Int} {i k m : Nat} (h : LegAt c i k m) (h7 : lLast c m ≠ 25) : k = lReg c i:=by
 obtain ⟨h1,h2,f,hf,hk⟩:=h
 cases f with
 | zero=>omega
 | succ f=>rw [lRegGo,if_neg h7] at hk;omega
set_option maxRecDepth 100000 in
set_option maxHeartbeats 2000000 in
theorem tregions_any (A B : Option Addr) (na ca n cb : Nat) (c : List Int) (i : Nat) (w : World) (hB : Rd w 1 B (c.map encZ)) (hl : c.length = n) (hi : i≤n) (hn : n≤3000000) :
  Calls Tryz.prog 207 #[.agg #[.slice A na ca,.slice B n cb],.int .i64 i] w fun e w'=>e = .returned (.int .i64 (lReg c i : Nat))∧Below w.heap.size w w':=by
 have Hl:=Lib.hid hl
 clear hl
 have hBz : Below w.heap.size w (w.alloc (.cells #[.slice A na ca,.slice B n cb] 113)):=(Below.refl _ _).alloc (Nat.le_refl _) _
 have hK:=Blk.new w 113 #[.slice A na ca,.slice B n cb]
 have HLs:=Lib.hid (fun (j : Nat) W (h : Below w.heap.size w W) (hj : j≤n)=>tlast_any A B na ca n cb c j W (hB.below h) Hl.out hj (by omega))
 have HPs:=Lib.hid (fun (j : Nat) W (h : Below w.heap.size w W) (hj : j≤n)=>tpast_any A B na ca n cb c j 8 W (hB.below h) Hl.out hj (by omega))
 have HR0:=Lib.hid (legAt_first c i)
 have k0:=hK.cell 0
 have k1:=hK.cell 1
 simp only [List.getElem?_toArray,List.getElem?_cons_zero,List.getElem?_cons_succ] at k0 k1
 go_enter Tryz.func207,Tryz.ntmps207
 go_wp2_with fail
 refine (HPs.out i _ hBz hi).mono ?_
 generalize lPast c 8 i = x0 at HR0
 rintro e w1 ⟨rfl,hb1⟩
 replace k0:=cell_keep k0 hb1
 replace k1:=cell_keep k1 hb1
 have hB1:=hBz.trans (hb1.mono hBz.size)
 clear hBz hb1
 go_wp2_with fail
 go_loopw [1,5] (fun u v wr=>∃ m k : Nat,u = .int .i64 m∧v = .int .i64 k∧Hid (LegAt c i k m)∧Below w.heap.size w wr∧wr.cell? ⟨w.heap.size,0,none⟩ = some (.slice A na ca)∧wr.cell? ⟨w.heap.size,1,none⟩ = some (.slice B n cb)) (fun u _ _=>(intOf u).toNat)
 case atStart=>exact ⟨_,0,rfl,rfl,HR0,hB1,k0,k1⟩
 case round =>
  clear k0 k1 hB1
  obtain ⟨m,k,rfl,rfl,HR,hb,k0,k1⟩:=hrel
  have hx1:=HR.out.1
  have hx2:=HR.out.2.1
  have HOx:=Lib.hid (HLs.out m wr hb (by omega))
  by_cases h7 : lLast c m = 25
  ·rw [h7] at HOx
   have HR':=Lib.hid (legAt_next HR.out h7)
   have hm0:=lLast_pos h7 (by omega)
   have hlt:=lPast_le c 8 (m - 1)
   clear h7 HR
   obtain ⟨m,rfl⟩ : ∃ r,m = r+1:=⟨m - 1,by omega⟩
   rw [Nat.add_sub_cancel] at HR' hlt
   have e1 : ((m+1 : Nat) : Int) - 1 = (m : Int):=by omega
   go_wp2_with fail
   refine HOx.out.mono ?_
   rintro e w2 ⟨rfl,hb2⟩
   replace k0:=cell_keep k0 hb2
   replace k1:=cell_keep k1 hb2
   have hbb:=below_step hb hb2 hb.size
   have hx3:=HR'.out.2.1
   go_wp2_with fail
   refine (HPs.out m w2 hbb (by omega)).mono ?_
   generalize lPast c 8 m = y at HR' hlt hx3
   rintro e w3 ⟨rfl,hb3⟩
   replace k0:=cell_keep k0 hb3
   replace k1:=cell_keep k1 hb3
   have hbc:=below_step hbb hb3 hbb.size
   go_wp2
   go_roundw
   case rel=>exact ⟨y,k+1,rfl,by go_num,HR',hbc,k0,k1⟩
   case measure=>simp [intOf];omega
  ·have HV : Hid (k = lReg c i):=Lib.hid (legAt_end HR.out h7)
   have e7 : (lLast c m == 25) = false:=beq_eq_false_iff_ne.2 h7
   clear h7
   generalize lLast c m = y at HOx e7
   go_wp2_with fail
   refine HOx.out.mono ?_
   rintro e w2 ⟨rfl,hb2⟩
   go_wp2
   go_ret
   exact ⟨by rw [HV.out];rfl,below_step hb hb2 hb.size⟩
end Go.Proofs.YtdngkienloligaaGreatDoor
/- -/
namespace Go.Proofs.YtdngkienloligaaGreatDoor
open Go.RowKit
theorem tamong_b (c : Int) (xs : List Int) (n : Nat) (W : World) (arr : Array Value) (harr : arr = (xs.map (Value.int .i64)).toArray) (hn : xs.length = n) (hz : n≤10) :
  Calls Tryz.prog 164 #[.int .i64 c,.slice (some ⟨W.heap.size,0,none⟩) n n] (W.alloc (.cells arr 3)) fun e w'=>e = .returned (.bool (xs.contains c))∧Below W.heap.size W w' :=
 (tamong_lit c xs n W arr harr hn hz).mono (by rintro e w' ⟨h1,h2⟩;exact ⟨h1,by rw [← h2];exact (Below.refl _ _).alloc (Nat.le_refl _) _⟩)
set_option maxHeartbeats 1000000 in
theorem tmust_any (c : Int) (w : World) : Calls Tryz.prog 115 #[.int .i64 c] w fun e w'=>e = .returned (.bool (lMust c))∧Below w.heap.size w w':=by
 obtain ⟨r,Hr⟩ : ∃ r,Hid (lMust c = r):=⟨_,Lib.hid rfl⟩
 have h1 : [1,2,3].contains c = r:=Hr.out
 rw [Hr.out]
 go_enter Tryz.func115,Tryz.ntmps115
 go_wp2_with fail
 refine (tamong_b _ [1,2,3] 3 _ _ rfl rfl (by decide)).mono ?_
 rw [h1]
 rintro e wn ⟨rfl,hz⟩
 go_wp2
 go_ret
 exact ⟨rfl,hz⟩
end Go.Proofs.YtdngkienloligaaGreatDoor
/- -/
namespace Go.Proofs.YtdngkienloligaaGreatDoor
open Go.RowKit
set_option maxRecDepth 100000 in
set_option maxHeartbeats 8000000 in
theorem tnumber_any (A B : Option Addr) (na ca n cb : Nat) (c : List Int) (i : Nat) (w : World) (hB : Rd w 1 B (c.map encZ)) (hl : c.length = n) (hi : i≤n) (hn : n≤3000000) :
  Calls Tryz.prog 206 #[.agg #[.slice A na ca,.slice B n cb],.int .i64 i] w fun e w'=>e = .returned (.bool (lNum c i))∧Below w.heap.size w w':=by
 have hBz : Below w.heap.size w (w.alloc (.cells #[.slice A na ca,.slice B n cb] 113)):=(Below.refl _ _).alloc (Nat.le_refl _) _
 have hK:=Blk.new w 113 #[.slice A na ca,.slice B n cb]
 have k0:=hK.cell 0
 have k1:=hK.cell 1
 simp only [List.getElem?_toArray,List.getElem?_cons_zero,List.getElem?_cons_succ] at k0 k1
 have HLs:=Lib.hid (fun (j : Nat) W (h : Below w.heap.size w W) (hj : j≤n)=>tlast_any A B na ca n cb c j W (hB.below h) hl hj (by omega))
 have HPs:=Lib.hid (fun (j : Nat) (k : Int) W (h : Below w.heap.size w W) (hj : j≤n)=>tpast_any A B na ca n cb c j k W (hB.below h) hl hj (by omega))
 obtain ⟨n1,H1⟩ : ∃ x,Hid (lPast c 8 i = x):=⟨_,Lib.hid rfl⟩
 have g1 : n1≤i:=by have:=lPast_le c 8 i;have:=H1.out;omega
 obtain ⟨y1,Y1⟩ : ∃ x,Hid (lLast c n1 = x):=⟨_,Lib.hid rfl⟩
 obtain ⟨n2,H2⟩ : ∃ x,Hid ((if [11,10].contains y1 then lPast c 8 (n1 - 1) else n1) = x):=⟨_,Lib.hid rfl⟩
 obtain ⟨y2,Y2⟩ : ∃ x,Hid (lLast c n2 = x):=⟨_,Lib.hid rfl⟩
 obtain ⟨n3,H3⟩ : ∃ x,Hid ((if [14,15].contains y2 then lPast c 8 (n2 - 1) else n2) = x):=⟨_,Lib.hid rfl⟩
 obtain ⟨y3,Y3⟩ : ∃ x,Hid (lLast c n3 = x):=⟨_,Lib.hid rfl⟩
 have HW : Hid (lNum c i = (y3 == 20)):=Lib.hid (by
  rw [← Y3.out,← H3.out,← Y2.out,← H2.out,← Y1.out,← H1.out];rfl)
 have g2 : n2≤n1:=by
  rw [← H2.out]
  have:=lPast_le c 8 (n1 - 1)
  split
  ·omega
  ·omega
 have g3 : n3≤n2:=by
  rw [← H3.out]
  have:=lPast_le c 8 (n2 - 1)
  split
  ·omega
  ·omega
 have P1 : Hid ([11,10].contains y1 = true→0 < n1):=Lib.hid (fun h=>lLast_pos Y1.out (by simp at h;omega))
 have P2 : Hid ([14,15].contains y2 = true→0 < n2):=Lib.hid (fun h=>lLast_pos Y2.out (by simp at h;omega))
 have hb:=hBz
 clear hBz hB hl hK
 go_enter Tryz.func206,Tryz.ntmps206
 go_wp2_with fail
 refine (HPs.out _ _ _ hb (by omega)).mono ?_
 rw [H1.out]
 rintro e wn ⟨rfl,hz⟩
 replace k0:=cell_keep k0 hz
 replace k1:=cell_keep k1 hz
 replace hb:=below_step hb hz hb.size
 clear hz
 go_wp2_with fail
 refine (HLs.out _ _ hb (by omega)).mono ?_
 rw [Y1.out]
 rintro e wn ⟨rfl,hz⟩
 replace k0:=cell_keep k0 hz
 replace k1:=cell_keep k1 hz
 replace hb:=below_step hb hz hb.size
 clear hz
 cases m1 : ([11,10].contains y1) with
 | true =>
  go_wp2_with fail
  refine (tamong_b _ [11,10] 2 _ _ rfl rfl (by decide)).mono ?_
  rw [m1]
  rintro e wn ⟨rfl,hz⟩
  replace k0:=cell_keep k0 hz
  replace k1:=cell_keep k1 hz
  replace hb:=below_step hb hz hb.size
  clear hz
  have hp:=P1.out m1
  rw [m1,if_pos rfl] at H2
  obtain ⟨r1,rfl⟩ : ∃ r,n1 = r+1:=⟨n1 - 1,by omega⟩
  rw [Nat.add_sub_cancel] at H2
  have e1 : ((r1+1 : Nat) : Int) - 1 = (r1 : Int):=by omega
  go_wp2_with fail
  refine (HPs.out _ _ _ hb (by omega)).mono ?_
  rw [H2.out]
  rintro e wn ⟨rfl,hz⟩
  replace k0:=cell_keep k0 hz
  replace k1:=cell_keep k1 hz
  replace hb:=below_step hb hz hb.size
  clear hz
  go_wp2_with fail
  refine (HLs.out _ _ hb (by omega)).mono ?_
  rw [Y2.out]
  rintro e wn ⟨rfl,hz⟩
  replace k0:=cell_keep k0 hz
  replace k1:=cell_keep k1 hz
  replace hb:=below_step hb hz hb.size
  clear hz
  cases m2 : ([14,15].contains y2) with
  | true =>
   go_wp2_with fail
   refine (tamong_b _ [14,15] 2 _ _ rfl rfl (by decide)).mono ?_
   rw [m2]
   rintro e wn ⟨rfl,hz⟩
   replace k0:=cell_keep k0 hz
   replace k1:=cell_keep k1 hz
   replace hb:=below_step hb hz hb.size
   clear hz
   have hp:=P2.out m2
   rw [m2,if_pos rfl] at H3
   obtain ⟨r2,rfl⟩ : ∃ r,n2 = r+1:=⟨n2 - 1,by omega⟩
   rw [Nat.add_sub_cancel] at H3
   have e2 : ((r2+1 : Nat) : Int) - 1 = (r2 : Int):=by omega
   go_wp2_with fail
   refine (HPs.out _ _ _ hb (by omega)).mono ?_
   rw [H3.out]
   rintro e wn ⟨rfl,hz⟩
   replace k0:=cell_keep k0 hz
   replace k1:=cell_keep k1 hz
   replace hb:=below_step hb hz hb.size
   clear hz
   go_wp2_with fail
   refine (HLs.out _ _ hb (by omega)).mono ?_
   rw [Y3.out]
   rintro e wn ⟨rfl,hz⟩
   replace k0:=cell_keep k0 hz
   replace k1:=cell_keep k1 hz
   replace hb:=below_step hb hz hb.size
   clear hz
   go_wp2
   go_ret
   exact ⟨by rw [HW.out];rfl,hb⟩
  | false =>
   go_wp2_with fail
   refine (tamong_b _ [14,15] 2 _ _ rfl rfl (by decide)).mono ?_
   rw [m2]
   rintro e wn ⟨rfl,hz⟩
   replace k0:=cell_keep k0 hz
   replace k1:=cell_keep k1 hz
   replace hb:=below_step hb hz hb.size
   clear hz
   rw [m2,if_neg (by simp)] at H3
   obtain rfl:=H3.out.symm
   go_wp2_with fail
   refine (HLs.out _ _ hb (by omega)).mono ?_
   rw [Y3.out]
   rintro e wn ⟨rfl,hz⟩
   replace k0:=cell_keep k0 hz
   replace k1:=cell_keep k1 hz
   replace hb:=below_step hb hz hb.size
   clear hz
   go_wp2
   go_ret
   exact ⟨by rw [HW.out];rfl,hb⟩
 | false =>
  go_wp2_with fail
  refine (tamong_b _ [11,10] 2 _ _ rfl rfl (by decide)).mono ?_
  rw [m1]
  rintro e wn ⟨rfl,hz⟩
  replace k0:=cell_keep k0 hz
  replace k1:=cell_keep k1 hz
  replace hb:=below_step hb hz hb.size
  clear hz
  rw [m1,if_neg (by simp)] at H2
  obtain rfl:=H2.out.symm
  go_wp2_with fail
  refine (HLs.out _ _ hb (by omega)).mono ?_
  rw [Y2.out]
  rintro e wn ⟨rfl,hz⟩
  replace k0:=cell_keep k0 hz
  replace k1:=cell_keep k1 hz
  replace hb:=below_step hb hz hb.size
  clear hz
  cases m2 : ([14,15].contains y2) with
  | true =>
   go_wp2_with fail
   refine (tamong_b _ [14,15] 2 _ _ rfl rfl (by decide)).mono ?_
   rw [m2]
   rintro e wn ⟨rfl,hz⟩
   replace k0:=cell_keep k0 hz
   replace k1:=cell_keep k1 hz
   replace hb:=below_step hb hz hb.size
   clear hz
   have hp:=P2.out m2
   rw [m2,if_pos rfl] at H3
   obtain ⟨r2,rfl⟩ : ∃ r,n2 = r+1:=⟨n2 - 1,by omega⟩
   rw [Nat.add_sub_cancel] at H3
   have e2 : ((r2+1 : Nat) : Int) - 1 = (r2 : Int):=by omega
   go_wp2_with fail
   refine (HPs.out _ _ _ hb (by omega)).mono ?_
   rw [H3.out]
   rintro e wn ⟨rfl,hz⟩
   replace k0:=cell_keep k0 hz
   replace k1:=cell_keep k1 hz
   replace hb:=below_step hb hz hb.size
   clear hz
   go_wp2_with fail
   refine (HLs.out _ _ hb (by omega)).mono ?_
   rw [Y3.out]
   rintro e wn ⟨rfl,hz⟩
   replace k0:=cell_keep k0 hz
   replace k1:=cell_keep k1 hz
   replace hb:=below_step hb hz hb.size
   clear hz
   go_wp2
   go_ret
   exact ⟨by rw [HW.out];rfl,hb⟩
  | false =>
   go_wp2_with fail
   refine (tamong_b _ [14,15] 2 _ _ rfl rfl (by decide)).mono ?_
   rw [m2]
   rintro e wn ⟨rfl,hz⟩
   replace k0:=cell_keep k0 hz
   replace k1:=cell_keep k1 hz
   replace hb:=below_step hb hz hb.size
   clear hz
   rw [m2,if_neg (by simp)] at H3
   obtain rfl:=H3.out.symm
   go_wp2_with fail
   refine (HLs.out _ _ hb (by omega)).mono ?_
   rw [Y3.out]
   rintro e wn ⟨rfl,hz⟩
   replace k0:=cell_keep k0 hz
   replace k1:=cell_keep k1 hz
   replace hb:=below_step hb hz hb.size
   clear hz
   go_wp2
   go_ret
   exact ⟨by rw [HW.out];rfl,hb⟩
end Go.Proofs.YtdngkienloligaaGreatDoor
