/- -/
import Derived.Test.YtglmcknlnoknoaaGreatDoorV3a
import Derived.Test.YtglmcknlnoknoaaGreatDoorV6a
import Derived.Test.YtglmcknlnoknoaaGreatDoorV0b
namespace Go.Proofs.YtglmcknlnoknoaaGreatDoor
set_option maxRecDepth 100000
set_option maxHeartbeats 40000000
section
open Go.RowKit
theorem revL_map : ∀ ks : List Pat,revL ks = ks.map revP
 | []=>by unfold revL;rfl
 | p :: r=>by unfold revL;rw [List.map_cons,revL_map r]
def OffG (A : Option Addr) (g : Nat) : Prop:=∀ a,A = some a→a.block ≠ g
theorem own_ne {w : World} {b b' s s' n n' c c' : Nat} {e e' : TypeId} {A A' : Option Addr} {cs cs' : List (List Value)} (h : Own w b e s A n c cs) (h' : Own w b' e' s' A' n' c' cs') (he : e ≠ e') : ∀ a a',A = some a→A' = some a'→a.block ≠ a'.block:=by
 intro a a' ha ha' hh
 rcases h.2.2.2 with ⟨h0,_⟩ | ⟨g,cap,cur,hv,_,hh1,_⟩
 ·injection h0 with h0;rw [h0] at ha;cases ha
 rcases h'.2.2.2 with ⟨h0,_⟩ | ⟨g',cap',cur',hv',_,hh2,_⟩
 ·injection h0 with h0;rw [h0] at ha';cases ha'
 injection hv with hv
 injection hv' with hv'
 rw [hv] at ha;injection ha with ha
 rw [hv'] at ha';injection ha' with ha'
 subst ha
 subst ha'
 simp only at hh
 subst hh
 rw [hh1] at hh2
 injection hh2 with hh2
 injection hh2 with _ hh2
 exact he hh2
theorem rev_set {w : World} {base g : Nat} {A : Option Addr} {v : Value} {ps : List Pat} {vs : List Pv} (h : PatsX w (fun b=>OffX base A b∧b ≠ g) ps vs) : PatsX (w.setCell ⟨g,2,none⟩ v) (fun b=>OffX base A b∧b ≠ g) ps vs :=
 h.keep ⟨by simp [World.setCell],fun b hb _=>Below.heap_setCell w ⟨g,2,none⟩ v b (by simpa using hb.2),fun b hb _=>hb⟩
theorem rev_step {w1 wr wz U w9 : World} {base g i n c4 ck : Nat} {A4 Ak A3 : Option Addr} {cs : List Nat} {xs : Array Value} {kc : List (List Value)} {ps : List Pat} {vs : List Pv} {q : Pat} {v' : Pv} {o : Obj}
  (hG : Blk wr g 207 xs) (hgl : base≤g) (hoN : Own wr base 3 1 A4 n c4 (cs.map encN)) (hoK : Own wr base 207 3 Ak i ck kc) (hAkg : OffG Ak g)
  (hPs : PatsX wr (fun b=>OffX base Ak b∧b ≠ g) ps vs) (hB8 : Below wr.heap.size wr U) (hU : U = wz.alloc o) (hp7 : PatX wz (fun b=>wr.heap.size≤b) q v') (hb : Below w1.heap.size w1 wr)
  (hg9 : U.grownBy w9 (Ak.map (·.block))) (hA9 : A3 = Ak∨A3 = some ⟨U.heap.size,0,none⟩) (hw : w1.heap.size≤base) (_hbw : base≤wr.heap.size) :
  Blk w9 g 207 xs∧Own w9 base 3 1 A4 n c4 (cs.map encN)∧(PatsX w9 (fun b=>OffX base A3 b∧b ≠ g) ps vs∧PatX w9 (fun b=>OffX base A3 b∧b ≠ g) q v')∧OffG A3 g∧Below w1.heap.size w1 w9:=by
 have hgw:=hG.lt
 have hz8:=hB8.size
 have hK:=hoK.lt
 have hnk : ∀ b,(∀ a,Ak = some a→b ≠ a.block)→some b ≠ Ak.map (·.block):=fun b h e=>by
  cases hA : Ak with
  | none=>rw [hA] at e;cases e
  | some a=>rw [hA] at e;injection e with e;exact h a hA e
 refine ⟨(hG.below hB8).grown hg9 (hnk g (fun a ha e=>hAkg a ha e.symm)),(hoN.below hB8).grown hg9 (fun a ha=>hnk _ (fun a' ha'=>own_ne hoN hoK (by decide) a a' ha ha')),⟨?_,?_⟩,?_,?_⟩
 ·refine (hPs.keep (KeepX.below hB8)).keep ⟨hg9.size,fun b hb hl=>hg9.block b hl (hnk b hb.1.2),fun b hb hl=>⟨⟨hb.1.1,fun a ha=>?_⟩,hb.2⟩⟩
  rcases hA9 with h | h
  ·exact hb.1.2 a (by rw [← h];exact ha)
  ·rw [h] at ha;injection ha with ha;subst ha;simp only;omega
 ·have h8 : PatX U (fun b=>wr.heap.size≤b) q v':=by
   rw [hU];exact hp7.below ((Below.refl _ _).alloc (Nat.le_refl _) _)
  refine h8.keep ⟨hg9.size,fun b hb hl=>hg9.block b hl (hnk b (fun a ha=>by have:=(hK a ha).2;omega)),fun b hb hl=>⟨⟨by omega,fun a ha=>?_⟩,by omega⟩⟩
  rcases hA9 with h | h
  ·have:=(hK a (by rw [← h];exact ha)).2;omega
  ·rw [h] at ha;injection ha with ha;subst ha;simp only;omega
 ·intro a ha
  rcases hA9 with h | h
  ·exact hAkg a (by rw [← h];exact ha)
  ·rw [h] at ha;injection ha with ha;subst ha;simp only;omega
 ·exact below_app (below_two hb hB8) hg9 (by have:=hb.size;omega) (fun a ha=>by have:=(hK a ha).1;omega)
theorem res_rev (w : World) (b : Nat) (v : Pv) (tmps : Array Value) (ht : tmps.getD 2 undef = .pointer (some ⟨b,0,none⟩)) (hc : PCell w b v) : (results Tryz.f249 tmps).run Tryz.prog w = .ok (valPt v) w:=by
 have ht' : tmps[2]?.getD undef = .pointer (some ⟨b,0,none⟩):=by simpa [Array.getD_eq_getD_getElem?] using ht
 obtain ⟨h0,h1,h2⟩:=hc
 simp [results,Tryz.results249,go_sem,ht',h0,h1,h2,valPt]
def KidRev (p : Pat) : Prop:=∀ (X : Nat→Prop) (v : Pv) (w : World),PatX w X p v→goodP 64 p = true→Calls Tryz.prog 249 #[valPt v] w fun e w'=>∃ v',e = .returned (valPt v')∧PatX w' (fun b=>w.heap.size≤b) (revP p) v'∧Below w.heap.size w w'
theorem jreverse_step (X : Nat→Prop) (op : Nat) (cs : List Nat) (ks : List Pat) (v : Pv) (w : World) (hp : PatX w X (.node op cs ks) v) (hg : goodP 64 (.node op cs ks) = true) (hz : sizeL ks≤2048) (HK : ∀ p ∈ ks,KidRev p) :
  Calls Tryz.prog 249 #[valPt v] w fun e w'=>∃ v',e = .returned (valPt v')∧PatX w' (fun b=>w.heap.size≤b) (revP (.node op cs ks)) v'∧Below w.heap.size w w':=by
 obtain ⟨i0,hi0,hz0,hz1,hz2⟩:=info_parts infoInt
 obtain ⟨j0,hj0,hy0,hy1,hy2⟩:=info_parts infoPatH
 obtain ⟨o,⟨A,n,c⟩,⟨B,m,d⟩⟩:=v
 simp only [PatX] at hp
 obtain ⟨rfl,hA,vs,hB,hKs⟩:=hp
 unfold goodP at hg
 rw [Bool.and_eq_true] at hg
 obtain ⟨h1,h2,h3,h4,h5⟩:=node_parts hg.1
 have hcz : cs.length≤64:=rises_len h5 h4
 have hn : cs.length = n:=by have:=hA.len;rwa [List.length_map] at this
 have hm : vs.length = m:=by have:=hB.len;rwa [List.length_map] at this
 have hk2:=hKs.len
 rw [hm] at hk2
 have hkl:=sizeL_len ks
 have hmz : m≤2048:=by omega
 have hnz : n≤64:=by omega
 have hrd0:=hA.rd
 simp only at hrd0
 have HB:=Lib.hid hB
 have HKs:=Lib.hid hKs
 have Hg:=Lib.hid hg.2
 have Hk2:=Lib.hid hk2
 have HKid:=Lib.hid HK
 obtain ⟨t,Ht⟩ : ∃ t,Hid (decide (o = 2) = t):=⟨_,Lib.hid rfl⟩
 obtain ⟨RL,HR⟩ : ∃ RL,Hid ((if t then (revL ks).reverse else revL ks) = RL):=⟨_,Lib.hid rfl⟩
 have HV : revP (.node o cs ks) = .node o cs RL:=by
  unfold revP
  rw [← HR.out,← Ht.out]
  by_cases e : o = 2
  ·rw [if_pos e,decide_eq_true e];rfl
  ·rw [if_neg e,decide_eq_false e];rfl
 have HRl : Hid (RL.length = m):=Lib.hid (by rw [← HR.out];cases t <;> simp [revL_map,hk2])
 have HRa : Hid (∀ i q,i < m→ks[if t then m - 1 - i else i]? = some q→RL[i]? = some (revP q)):=Lib.hid (fun i q hi hq=>by
  rw [← HR.out]
  cases t with
  | false=>simp only [Bool.false_eq_true,if_false] at hq ⊢;rw [revL_map,List.getElem?_map,hq];rfl
  | true =>
   simp only [if_true] at hq ⊢
   rw [List.getElem?_reverse (by rw [revL_map,List.length_map];omega),revL_map,List.getElem?_map,List.length_map,show ks.length - 1 - i = m - 1 - i by omega,hq];rfl)
 have ht2 : ((o : Int) == 2) = t:=by rw [← Ht.out,Bool.eq_iff_iff,beq_iff_eq,decide_eq_true_iff];omega
 rw [HV]
 unfold valPt
 simp only
 have hb0 : Blk ((w.alloc (.cells #[.int .i64 (o : Int),.slice A n c,.slice B m d] 207)).alloc (.cells #[.int .i64 0,.slice none 0 0,.slice none 0 0] 207)) w.heap.size 207 #[.int .i64 (o : Int),.slice A n c,.slice B m d]:=(Blk.new _ _ _).alloc _
 have hbr : Blk ((w.alloc (.cells #[.int .i64 (o : Int),.slice A n c,.slice B m d] 207)).alloc (.cells #[.int .i64 0,.slice none 0 0,.slice none 0 0] 207)) (w.heap.size+1) 207 #[.int .i64 0,.slice none 0 0,.slice none 0 0]:=by
  have:=Blk.new (w.alloc (.cells #[.int .i64 (o : Int),.slice A n c,.slice B m d] 207)) 207 #[.int .i64 0,.slice none 0 0,.slice none 0 0]
  simpa using this
 have Hz : Below w.heap.size w ((w.alloc (.cells #[.int .i64 (o : Int),.slice A n c,.slice B m d] 207)).alloc (.cells #[.int .i64 0,.slice none 0 0,.slice none 0 0] 207)):=((Below.refl _ _).alloc (Nat.le_refl _) _).alloc (by simp) _
 have hw1 : ((w.alloc (.cells #[.int .i64 (o : Int),.slice A n c,.slice B m d] 207)).alloc (.cells #[.int .i64 0,.slice none 0 0,.slice none 0 0] 207)).heap.size≤w.heap.size+2:=by simp
 have hw2 : w.heap.size+2≤((w.alloc (.cells #[.int .i64 (o : Int),.slice A n c,.slice B m d] 207)).alloc (.cells #[.int .i64 0,.slice none 0 0,.slice none 0 0] 207)).heap.size:=by simp
 clear hA hB hKs hk2 hkl hg hz HK hm h1 h2 h3 h4 h5 HV hcz
 go_enter Tryz.func249,Tryz.ntmps249
 go_wp2_with fail
 generalize ((w.alloc (.cells #[.int .i64 (o : Int),.slice A n c,.slice B m d] 207)).alloc (.cells #[.int .i64 0,.slice none 0 0,.slice none 0 0] 207)) = w1 at hb0 hbr Hz hw1 hw2 ⊢
 have x0:=hb0.cell 0
 have x1:=hb0.cell 1
 have x2:=hb0.cell 2
 simp only [zG,zI,zH] at x0 x1 x2
 have hrd:=hrd0.below Hz
 go_upto_region 1 with fail
 go_cut [3] from 7 to 13 (fun v wx=>∃ (g : Nat) (A4 : Option Addr) (c4 : Nat),v = .pointer (some ⟨g,0,none⟩)∧Blk wx g 207 #[.int .i64 (o : Int),.slice A4 n c4,.slice none 0 0]∧w.heap.size+2≤g∧Own wx (w.heap.size+2) 3 1 A4 n c4 (cs.map encN)∧OffG A4 g∧Below w1.heap.size w1 wx)
 case first =>
  refine wp_region_last (S:=fun V=>V.cell? ⟨w.heap.size,0,none⟩ = some (.int .i64 (o : Int))∧V.cell? ⟨w.heap.size,1,none⟩ = some (.slice A n c)) 8 rfl (by kernel_rfl) (by kernel_rfl) (by kernel_rfl) ⟨x0,x1⟩ (fun hHeld=>?_)
  simp only [List.dropLast_cons_cons,List.dropLast_singleton]
  refine tkH (i:=0) (v:=?_) rfl ?_ ?_;rotate_left;focus ((intro w hSw;(try dsimp only at hSw);go_simp);try with_reducible rfl)
  (try simp only [Act.put,zA,zC,zD,zE,zF])
  refine tkH (i:=1) (v:=?_) rfl ?_ ?_;rotate_left;focus ((intro w hSw;(try dsimp only at hSw);go_simp);try with_reducible rfl)
  (try simp only [Act.put,zA,zB,zC,zD,zE,zF])
  refine tkH (i:=3) (v:=?_) rfl ?_ ?_;rotate_left;focus ((intro w hSw;(try dsimp only at hSw);go_simp);try with_reducible rfl)
  (try simp only [Act.put,zA,zB,zC,zD,zE,zF])
  refine tkH (i:=4) (v:=?_) rfl ?_ ?_;rotate_left;focus ((intro w hSw;(try dsimp only at hSw);go_simp);try with_reducible rfl)
  (try simp only [Act.put,zA,zB,zC,zD,zE,zF])
  have hbU : Below w1.heap.size w1 w1.drew:=(Below.refl _ _).drew
  generalize w1.drew = U0 at hbU ⊢
  have hUz:=hbU.size
  refine wpAnyH_ready (rs:=[2,7]) (by kernel_rfl) (by simp) ?_
  refine AllReadyH.cons rfl (fun K hK=>?_) ?_
  ·skip
   go_simp
   have o0:=Own.lit U0 (w.heap.size+2) 3 1 (by omega)
   have hbn:=hbU.alloc hbU.size (.cells #[] 3)
   refine hK.out _ _ ⟨cell_keep x0 hbn,cell_keep x1 hbn⟩ (fun hHeld=>?_)
   clear hK K
   generalize U0.alloc (.cells #[] 3) = U1 at o0 hbn ⊢
   generalize U0.heap.size = g0 at o0 ⊢
   (try simp only [Act.put,zA,zB,zC,zD,zE,zF])
   replace hbU:=hbn
   clear hbn
   have hUz:=hbU.size
   refine wpAnyH_ready (rs:=[5,7]) (by kernel_rfl) (by simp) ?_
   refine AllReadyH.cons rfl (fun K hK=>?_) ?_
   ·skip
    refine step_app rfl (.tmp 9) (.tmp 11) _ rfl (w.heap.size+2) 3 i0 _ 1 8 Tryz.underlying52 hi0 hz0 hz1 hz2 rfl (by omega) _ 0 0 _ rfl o0 _ n c (cs.map encN) rfl (by rw [List.length_map];exact hn) (hrd.below hbU) (encN_ok' _) (by unfold maxLen;omega) (by omega) (by omega) ?_
    intro A4 c4 U2 ho4 hg4 hA4
    have hbn:=below_app hbU hg4 (by omega) (fun a ha=>by have:=(o0.lt a ha).1;omega)
    refine hK.out _ _ ⟨cell_keep x0 hbn,cell_keep x1 hbn⟩ (fun hHeld=>?_)
    clear hK K
    replace o0:=ho4
    clear ho4 hg4 hA4
    simp only [Nat.zero_add,List.nil_append] at o0 ⊢
    (try simp only [Act.put,zA,zB,zC,zD,zE,zF])
    replace hbU:=hbn
    clear hbn
    have hUz:=hbU.size
    refine tkH (i:=6) (v:=?_) rfl ?_ ?_;rotate_left;focus ((intro w hSw;(try dsimp only at hSw);go_simp);try with_reducible rfl)
    (try simp only [Act.put,zA,zB,zC,zD,zE,zF])
    refine wpAnyH_ready (rs:=[7]) (by kernel_rfl) (by simp) ?_
    refine AllReadyH.cons rfl (fun K hK=>?_) AllReadyH.nil
    go_simp
    have bg:=Blk.new U2 207 #[.int .i64 0,.slice none 0 0,.slice none 0 0]
    have hbn:=hbU.alloc hbU.size (.cells #[.int .i64 0,.slice none 0 0,.slice none 0 0] 207)
    refine hK.out _ _ ⟨cell_keep x0 hbn,cell_keep x1 hbn⟩ (fun hHeld=>?_)
    have hA4g : ∀ a,A4 = some a→a.block ≠ U2.heap.size:=fun a ha=>by have:=(o0.lt a ha).2;omega
    replace o0:=o0.alloc (.cells #[.int .i64 0,.slice none 0 0,.slice none 0 0] 207)
    have hgU : w.heap.size+2≤U2.heap.size:=by have:=hbU.size;omega
    clear hK K
    generalize U2.alloc (.cells #[.int .i64 0,.slice none 0 0,.slice none 0 0] 207) = U3 at bg hbn o0 ⊢
    generalize U2.heap.size = g at bg hgU hA4g ⊢
    (try simp only [Act.put,zA,zB,zC,zD,zE,zF])
    replace hbU:=hbn
    clear hbn
    have hUz:=hbU.size
    have q0:=bg.cell 0
    have q1:=bg.cell 1
    have q2:=bg.cell 2
    have f0:=bg.frozen 0
    have f1:=bg.frozen 1
    have f2:=bg.frozen 2
    simp only [zG,zI,zH] at q0 q1 q2
    refine wpAnyH_done (by kernel_rfl) ?_ _
    refine tailQ_end (wpOp_step (i:=8) rfl (fun K hK=>?_))
    go_simp
    refine hK _ _ ?_
    clear hK K
    have hf:=((bg.set_ 0 (.int .i64 (o : Int))).set_ 1 (.slice A4 n c4)).set_ 2 (.slice none 0 0)
    have hoo:=((o0.setCell (p:=⟨g,0,none⟩) hA4g (.int .i64 (o : Int))).setCell (p:=⟨g,1,none⟩) hA4g (.slice A4 n c4)).setCell (p:=⟨g,2,none⟩) hA4g (.slice none 0 0)
    have hbb:=((hbU.setCell (p:=⟨g,0,none⟩) (by simp only;omega) (.int .i64 (o : Int))).setCell (p:=⟨g,1,none⟩) (by simp only;omega) (.slice A4 n c4)).setCell (p:=⟨g,2,none⟩) (by simp only;omega) (.slice none 0 0)
    go_wp2
    go_meet
    exact ⟨g,A4,c4,rfl,by simpa using hf,by omega,hoo,hA4g,hbb⟩
   refine AllReadyH.cons rfl (fun K hK=>?_) AllReadyH.nil
   go_simp
   have bg:=Blk.new U1 207 #[.int .i64 0,.slice none 0 0,.slice none 0 0]
   have hbn:=hbU.alloc hbU.size (.cells #[.int .i64 0,.slice none 0 0,.slice none 0 0] 207)
   refine hK.out _ _ ⟨cell_keep x0 hbn,cell_keep x1 hbn⟩ (fun hHeld=>?_)
   have hne0 : ∀ a : Addr,a = ⟨g0,0,none⟩→a.block ≠ U1.heap.size:=fun a ha=>by subst ha;have:=(o0.lt _ rfl).2;simp only at this ⊢;omega
   replace o0:=o0.alloc (.cells #[.int .i64 0,.slice none 0 0,.slice none 0 0] 207)
   have hgU : w.heap.size+2≤U1.heap.size:=by have:=hbU.size;omega
   clear hK K
   generalize U1.alloc (.cells #[.int .i64 0,.slice none 0 0,.slice none 0 0] 207) = U2 at bg hbn o0 ⊢
   generalize U1.heap.size = g at bg hgU hne0 ⊢
   (try simp only [Act.put,zA,zB,zC,zD,zE,zF])
   replace hbU:=hbn
   clear hbn
   have hUz:=hbU.size
   refine wpAnyH_ready (rs:=[5]) (by kernel_rfl) (by simp) ?_
   refine AllReadyH.cons rfl (fun K hK=>?_) AllReadyH.nil
   refine step_app rfl (.tmp 9) (.tmp 11) _ rfl (w.heap.size+2) 3 i0 _ 1 8 Tryz.underlying52 hi0 hz0 hz1 hz2 rfl (by omega) _ 0 0 _ rfl o0 _ n c (cs.map encN) rfl (by rw [List.length_map];exact hn) (hrd.below hbU) (encN_ok' _) (by unfold maxLen;omega) (by omega) (by omega) ?_
   intro A4 c4 U3 ho4 hg4 hA4
   have hbn:=below_app hbU hg4 (by omega) (fun a ha=>by have:=(o0.lt a ha).1;omega)
   refine hK.out _ _ ⟨cell_keep x0 hbn,cell_keep x1 hbn⟩ (fun hHeld=>?_)
   have hA4g : ∀ a,A4 = some a→a.block ≠ g:=fun a ha=>by
    have hgl:=bg.lt
    rcases hA4 with h | h
    ·rw [ha] at h;injection h with h;exact hne0 a h
    ·rw [ha] at h;injection h with h;subst h;simp only;omega
   replace bg:=bg.grown hg4 (fun e=>by simp at e;exact hne0 _ rfl e.symm)
   clear hne0
   clear hK K
   replace o0:=ho4
   clear ho4 hg4 hA4
   simp only [Nat.zero_add,List.nil_append] at o0 ⊢
   (try simp only [Act.put,zA,zB,zC,zD,zE,zF])
   replace hbU:=hbn
   clear hbn
   have hUz:=hbU.size
   refine tkH (i:=6) (v:=?_) rfl ?_ ?_;rotate_left;focus ((intro w hSw;(try dsimp only at hSw);go_simp);try with_reducible rfl)
   (try simp only [Act.put,zA,zB,zC,zD,zE,zF])
   have q0:=bg.cell 0
   have q1:=bg.cell 1
   have q2:=bg.cell 2
   have f0:=bg.frozen 0
   have f1:=bg.frozen 1
   have f2:=bg.frozen 2
   simp only [zG,zI,zH] at q0 q1 q2
   refine wpAnyH_done (by kernel_rfl) ?_ _
   refine tailQ_end (wpOp_step (i:=8) rfl (fun K hK=>?_))
   go_simp
   refine hK _ _ ?_
   clear hK K
   have hf:=((bg.set_ 0 (.int .i64 (o : Int))).set_ 1 (.slice A4 n c4)).set_ 2 (.slice none 0 0)
   have hoo:=((o0.setCell (p:=⟨g,0,none⟩) hA4g (.int .i64 (o : Int))).setCell (p:=⟨g,1,none⟩) hA4g (.slice A4 n c4)).setCell (p:=⟨g,2,none⟩) hA4g (.slice none 0 0)
   have hbb:=((hbU.setCell (p:=⟨g,0,none⟩) (by simp only;omega) (.int .i64 (o : Int))).setCell (p:=⟨g,1,none⟩) (by simp only;omega) (.slice A4 n c4)).setCell (p:=⟨g,2,none⟩) (by simp only;omega) (.slice none 0 0)
   go_wp2
   go_meet
   exact ⟨g,A4,c4,rfl,by simpa using hf,by omega,hoo,hA4g,hbb⟩
  refine AllReadyH.cons rfl (fun K hK=>?_) AllReadyH.nil
  go_simp
  have bg:=Blk.new U0 207 #[.int .i64 0,.slice none 0 0,.slice none 0 0]
  have hbn:=hbU.alloc hbU.size (.cells #[.int .i64 0,.slice none 0 0,.slice none 0 0] 207)
  refine hK.out _ _ ⟨cell_keep x0 hbn,cell_keep x1 hbn⟩ (fun hHeld=>?_)
  have hgU : w.heap.size+2≤U0.heap.size:=by have:=hbU.size;omega
  clear hK K
  generalize U0.alloc (.cells #[.int .i64 0,.slice none 0 0,.slice none 0 0] 207) = U1 at bg hbn ⊢
  generalize U0.heap.size = g at bg hgU ⊢
  (try simp only [Act.put,zA,zB,zC,zD,zE,zF])
  replace hbU:=hbn
  clear hbn
  have hUz:=hbU.size
  refine wpAnyH_ready (rs:=[2]) (by kernel_rfl) (by simp) ?_
  refine AllReadyH.cons rfl (fun K hK=>?_) AllReadyH.nil
  go_simp
  have o0:=Own.lit U1 (w.heap.size+2) 3 1 (by omega)
  have hbn:=hbU.alloc hbU.size (.cells #[] 3)
  refine hK.out _ _ ⟨cell_keep x0 hbn,cell_keep x1 hbn⟩ (fun hHeld=>?_)
  have hgn:=bg.lt
  replace bg:=bg.alloc (.cells #[] 3)
  clear hK K
  generalize U1.alloc (.cells #[] 3) = U2 at o0 hbn bg ⊢
  have hne0 : ∀ a : Addr,a = ⟨U1.heap.size,0,none⟩→a.block ≠ g:=fun a ha=>by subst ha;simp only;omega
  generalize U1.heap.size = g0 at o0 hne0 ⊢
  clear hgn
  (try simp only [Act.put,zA,zB,zC,zD,zE,zF])
  replace hbU:=hbn
  clear hbn
  have hUz:=hbU.size
  refine wpAnyH_ready (rs:=[5]) (by kernel_rfl) (by simp) ?_
  refine AllReadyH.cons rfl (fun K hK=>?_) AllReadyH.nil
  refine step_app rfl (.tmp 9) (.tmp 11) _ rfl (w.heap.size+2) 3 i0 _ 1 8 Tryz.underlying52 hi0 hz0 hz1 hz2 rfl (by omega) _ 0 0 _ rfl o0 _ n c (cs.map encN) rfl (by rw [List.length_map];exact hn) (hrd.below hbU) (encN_ok' _) (by unfold maxLen;omega) (by omega) (by omega) ?_
  intro A4 c4 U3 ho4 hg4 hA4
  have hbn:=below_app hbU hg4 (by omega) (fun a ha=>by have:=(o0.lt a ha).1;omega)
  refine hK.out _ _ ⟨cell_keep x0 hbn,cell_keep x1 hbn⟩ (fun hHeld=>?_)
  have hA4g : ∀ a,A4 = some a→a.block ≠ g:=fun a ha=>by
   have hgl:=bg.lt
   rcases hA4 with h | h
   ·rw [ha] at h;injection h with h;exact hne0 a h
   ·rw [ha] at h;injection h with h;subst h;simp only;omega
  replace bg:=bg.grown hg4 (fun e=>by simp at e;exact hne0 _ rfl e.symm)
  clear hne0
  clear hK K
  replace o0:=ho4
  clear ho4 hg4 hA4
  simp only [Nat.zero_add,List.nil_append] at o0 ⊢
  (try simp only [Act.put,zA,zB,zC,zD,zE,zF])
  replace hbU:=hbn
  clear hbn
  have hUz:=hbU.size
  refine tkH (i:=6) (v:=?_) rfl ?_ ?_;rotate_left;focus ((intro w hSw;(try dsimp only at hSw);go_simp);try with_reducible rfl)
  (try simp only [Act.put,zA,zB,zC,zD,zE,zF])
  have q0:=bg.cell 0
  have q1:=bg.cell 1
  have q2:=bg.cell 2
  have f0:=bg.frozen 0
  have f1:=bg.frozen 1
  have f2:=bg.frozen 2
  simp only [zG,zI,zH] at q0 q1 q2
  refine wpAnyH_done (by kernel_rfl) ?_ _
  refine tailQ_end (wpOp_step (i:=8) rfl (fun K hK=>?_))
  go_simp
  refine hK _ _ ?_
  clear hK K
  have hf:=((bg.set_ 0 (.int .i64 (o : Int))).set_ 1 (.slice A4 n c4)).set_ 2 (.slice none 0 0)
  have hoo:=((o0.setCell (p:=⟨g,0,none⟩) hA4g (.int .i64 (o : Int))).setCell (p:=⟨g,1,none⟩) hA4g (.slice A4 n c4)).setCell (p:=⟨g,2,none⟩) hA4g (.slice none 0 0)
  have hbb:=((hbU.setCell (p:=⟨g,0,none⟩) (by simp only;omega) (.int .i64 (o : Int))).setCell (p:=⟨g,1,none⟩) (by simp only;omega) (.slice A4 n c4)).setCell (p:=⟨g,2,none⟩) (by simp only;omega) (.slice none 0 0)
  go_wp2
  go_meet
  exact ⟨g,A4,c4,rfl,by simpa using hf,by omega,hoo,hA4g,hbb⟩
 case rest =>
  obtain ⟨g,A4,c4,rfl,hG0,hgl,hoN0,hA4g,hbc⟩:=hcut
  have HA4g:=Lib.hid hA4g
  have HZ:=Lib.hid (fun V (h : Below w1.heap.size w1 V)=>cell_keep x2 h)
  clear x0 x1 hA4g
  have x2c:=HZ.out wc hbc
  go_wp2_with fail
  go_loopw [5,6] (fun v _ wr=>∃ (i : Nat) (Ak : Option Addr) (ck : Nat) (vs' : List Pv),v = .int .i64 i∧i≤m∧Blk wr g 207 #[.int .i64 (o : Int),.slice A4 n c4,.slice Ak i ck]∧Own wr (w.heap.size+2) 3 1 A4 n c4 (cs.map encN)∧Own wr (w.heap.size+2) 207 3 Ak i ck (vs'.map encPt)∧OffG Ak g∧PatsX wr (fun b=>OffX (w.heap.size+2) Ak b∧b ≠ g) (RL.take i) vs'∧Below w1.heap.size w1 wr) (fun v _ _=>m - (intOf v).toNat)
  case atStart=>exact ⟨0,none,0,[],rfl,by omega,hG0,hoN0,Own.nil_ _ _ _ _,(fun a ha=>by cases ha),by simp only [List.take_zero,PatsX],hbc⟩
  case round =>
   clear hG0 hoN0 hbc x2c
   obtain ⟨i,Ak,ck,vs',rfl,hi,hG,hoN,hoK,hAkg,hPs,hb⟩:=hrel
   have z2:=HZ.out wr hb
   have y2:=hG.cell 2
   simp only [zG,zI,zH] at y2
   by_cases hlt : i < m
   ·obtain ⟨kk,Hkk⟩ : ∃ kk,Hid ((if t then m - 1 - i else i) = kk):=⟨_,Lib.hid rfl⟩
    have hkm : kk < m:=by have:=Hkk.out;cases t <;> simp at this <;> omega
    obtain ⟨q,hq⟩ : ∃ q,ks[kk]? = some q:=⟨_,List.getElem?_eq_getElem (by have:=Hk2.out;omega)⟩
    obtain ⟨u,hu,hpq⟩:=HKs.out.at_ hq
    obtain ⟨b,off,e,x0,x1,x2'⟩:=HB.out.atPt hu
    simp only at e
    subst e
    have hbw:=below_two Hz hb
    have HX:=Lib.hid (fun V (h : Below w1.heap.size w1 V)=>And.intro (cell_keep x0 (below_two Hz h)) (And.intro (cell_keep x1 (below_two Hz h)) (cell_keep x2' (below_two Hz h))))
    obtain ⟨e0,e1,e2⟩:=HX.out wr hb
    have HC:=Lib.hid (HKid.out q (List.mem_of_getElem? hq) X u wr.drew (hpq.below hbw.drew) (goodL_at Hg.out hq))
    have HRL : Hid (RL.take (i+1) = RL.take i++[revP q]):=Lib.hid (take_snoc (HRa.out i q hlt (by rw [Hkk.out];exact hq)))
    unfold valPt at HC
    clear hq hu hpq x0 x1 x2'
    have hrz:=hb.size
    have x00:=hb0.cell 0
    simp only [zG,zH] at x00
    replace x00:=cell_keep x00 hb
    go_upto_if 25 with fail
    go_cut [6] from 26 to 29 (fun v wx=>v = .int .i64 (kk : Nat)∧wx = wr)
    case first =>
     clear x00
     cases t with
     | true =>
      have hkk:=Hkk.out
      simp only [if_true] at hkk
      have ek : (m : Int) - 1 - (i : Int) = (kk : Int):=by omega
      go_wp2
      go_meet
      exact ⟨by first | rfl | go_num,rfl⟩
     | false =>
      have hkk:=Hkk.out
      simp only [Bool.false_eq_true,if_false] at hkk
      subst hkk
      go_wp2
      go_meet
      exact ⟨rfl,rfl⟩
    case rest =>
    obtain ⟨rfl,hwc⟩:=hcut
    replace hwc:=hwc.symm
    subst hwc
    have hki : (kk : Int) < (m : Int):=by omega
    clear x00
    go_wp2_with fail
    refine wp_region_last (S:=fun V=>V.cell? ⟨g,2,none⟩ = some (.slice Ak i ck)∧V.cell? ⟨w.heap.size,2,none⟩ = some (.slice (some ⟨b,off,none⟩) m d)∧V.cell? ⟨b,off+kk*3,none⟩ = some (.int .i64 (u.1 : Int))∧V.cell? ⟨b,off+kk*3+1,none⟩ = some (.slice u.2.1.1 u.2.1.2.1 u.2.1.2.2)∧V.cell? ⟨b,off+kk*3+2,none⟩ = some (.slice u.2.2.1 u.2.2.2.1 u.2.2.2.2)) 11 rfl (by kernel_rfl) (by kernel_rfl) (by kernel_rfl) ⟨y2,z2,e0,e1,e2⟩ (fun hHeld=>?_)
    simp only [List.dropLast_cons_cons,List.dropLast_singleton]
    refine tkH (i:=0) (v:=?_) rfl ?_ ?_;rotate_left;focus ((intro w hSw;(try dsimp only at hSw);go_simp);try with_reducible rfl)
    (try simp only [Act.put,zA,zC,zD,zE,zF])
    refine tkH (i:=1) (v:=?_) rfl ?_ ?_;rotate_left;focus ((intro w hSw;(try dsimp only at hSw);go_simp);try with_reducible rfl)
    (try simp only [Act.put,zA,zB,zC,zD,zE,zF])
    refine tkH (i:=2) (v:=?_) rfl ?_ ?_;rotate_left;focus ((intro w hSw;(try dsimp only at hSw);go_simp);try with_reducible rfl)
    (try simp only [Act.put,zA,zB,zC,zD,zE,zF])
    refine tkH (i:=3) (v:=?_) rfl ?_ ?_;rotate_left;focus ((intro w hSw;(try dsimp only at hSw);go_simp);try with_reducible rfl)
    (try simp only [Act.put,zA,zB,zC,zD,zE,zF])
    refine tkH (i:=4) (v:=?_) rfl ?_ ?_;rotate_left;focus ((intro w hSw;(try dsimp only at hSw);go_simp);try with_reducible rfl)
    (try simp only [Act.put,zA,zB,zC,zD,zE,zF])
    refine tkH (i:=5) (v:=?_) rfl ?_ ?_;rotate_left;focus ((intro w hSw;(try dsimp only at hSw);go_simp);try with_reducible rfl)
    (try simp only [Act.put,zA,zB,zC,zD,zE,zF])
    refine tkH (i:=6) (v:=?_) rfl ?_ ?_;rotate_left;focus ((intro w hSw;(try dsimp only at hSw);go_simp);try with_reducible rfl)
    (try simp only [Act.put,zA,zB,zC,zD,zE,zF])
    refine wpAnyH_ready (rs:=[7]) (by kernel_rfl) (by simp) ?_
    refine AllReadyH.cons rfl (fun K hK=>?_) AllReadyH.nil
    go_simp
    refine HC.out.mono ?_
    rintro e wz ⟨v',rfl,hp7,hb7⟩
    obtain ⟨o',⟨A1,n1,c1⟩,⟨A2,n2,c2⟩⟩:=v'
    have hB7:=(Below.refl wr.heap.size wr).drew.trans hb7
    refine hK.out _ _ ⟨cell_keep y2 hB7,cell_keep z2 hB7,cell_keep e0 hB7,cell_keep e1 hB7,cell_keep e2 hB7⟩ (fun hHeld=>?_)
    clear hK K
    (try simp only)
    refine wpAnyH_ready (rs:=[8]) (by kernel_rfl) (by simp) ?_
    refine AllReadyH.cons rfl (fun K hK=>?_) AllReadyH.nil
    go_simp
    have hB8:=hB7.alloc hB7.size (.cells #[.int .i64 (o' : Int),.slice A1 n1 c1,.slice A2 n2 c2] 207)
    refine hK.out _ _ ⟨cell_keep y2 hB8,cell_keep z2 hB8,cell_keep e0 hB8,cell_keep e1 hB8,cell_keep e2 hB8⟩ (fun hHeld=>?_)
    clear hK K
    (try simp only [Act.put,zA,zB,zC,zD,zE,zF])
    have T5 : Rd (wz.alloc (.cells #[.int .i64 (o' : Int),.slice A1 n1 c1,.slice A2 n2 c2] 207)) 3 (some ⟨wz.heap.size,0,none⟩) [encPt (o',(A1,n1,c1),(A2,n2,c2))]:=Rd.newAt (by simp) rfl
    refine wpAnyH_ready (rs:=[9]) (by kernel_rfl) (by simp) ?_
    refine AllReadyH.cons rfl (fun K hK=>?_) AllReadyH.nil
    refine step_app rfl (.tmp 31) (.tmp 38) _ rfl (w.heap.size+2) 207 j0 _ 3 56 Tryz.underlying205 hj0 hy0 hy1 hy2 rfl (by omega) Ak i ck (vs'.map encPt) rfl (hoK.below hB8) _ 1 1 [encPt (o',(A1,n1,c1),(A2,n2,c2))] rfl rfl T5 (encPt_ok [(o',(A1,n1,c1),(A2,n2,c2))]) (by unfold maxLen;omega) (by omega) (by have:=hB8.size;omega) ?_
    intro A3 c3 w9 ho9 hg9 hA9
    have hsp:=rev_step hG hgl hoN hoK hAkg hPs hB8 rfl hp7 hb hg9 hA9 (by omega) (by omega)
    obtain ⟨G9,N9,P9,Q9,hb9⟩:=hsp
    have r2:=G9.cell 2
    have fr2:=G9.frozen 2
    simp only [zG,zI,zH] at r2
    refine hK.out _ _ ⟨r2,HZ.out w9 hb9,HX.out w9 hb9⟩ (fun hHeld=>?_)
    clear hK K
    (try simp only [Act.put,zA,zB,zC,zD,zE,zF])
    refine tkH (i:=10) (v:=?_) rfl ?_ ?_;rotate_left;focus ((intro w hSw;(try dsimp only at hSw);go_simp);try with_reducible rfl)
    (try simp only [Act.put,zA,zB,zC,zD,zE,zF])
    refine wpAnyH_done (by kernel_rfl) ?_ _
    refine tailQ_end (wpOp_step (i:=11) rfl (fun K hK=>?_))
    go_simp
    refine hK _ _ ?_
    clear hK K
    have G10:=G9.set_ 2 (.slice A3 (i+1) c3)
    have hA3g : ∀ a,A3 = some a→a.block ≠ g:=fun a ha=>(Q9 a ha)
    go_wp2
    go_roundw
    case rel=>exact ⟨i+1,A3,c3,vs'++[(o',(A1,n1,c1),(A2,n2,c2))],by first | rfl | go_num,by omega,by simpa using G10,N9.setCell (p:=⟨g,2,none⟩) HA4g.out _,by rw [List.map_append];exact ho9.setCell (p:=⟨g,2,none⟩) hA3g _,hA3g,by rw [HRL.out];exact rev_set (PatsX.snoc P9.2 P9.1),hb9.setCell (p:=⟨g,2,none⟩) (by simp only;omega) _⟩
    case measure=>simp [intOf];omega
   ·obtain rfl : i = m:=by omega
    have hBr:=hbr.below hb
    have y0:=hG.cell 0
    have y1:=hG.cell 1
    have r0:=hBr.cell 0
    have r1:=hBr.cell 1
    have r2:=hBr.cell 2
    have f0:=hBr.frozen 0
    have f1:=hBr.frozen 1
    have f2:=hBr.frozen 2
    simp only [zG,zI,zH] at y0 y1 r0 r1 r2
    go_wp2
    have hf:=((hBr.set_ 0 (.int .i64 (o : Int))).set_ 1 (.slice A4 n c4)).set_ 2 (.slice Ak i ck)
    refine bodyPost_ret (res_rev _ (w.heap.size+1) (o,(A4,n,c4),(Ak,i,ck)) _ rfl (PCell.of_blk (by simpa using hf))) rfl ?_
    have hN1 : ∀ a,A4 = some a→a.block ≠ w.heap.size+1:=fun a ha=>by have:=(hoN.lt a ha).1;omega
    have hK1 : ∀ a,Ak = some a→a.block ≠ w.heap.size+1:=fun a ha=>by have:=(hoK.lt a ha).1;omega
    have hN2:=((hoN.setCell (p:=⟨w.heap.size+1,0,none⟩) hN1 (.int .i64 (o : Int))).setCell (p:=⟨w.heap.size+1,1,none⟩) hN1 (.slice A4 n c4)).setCell (p:=⟨w.heap.size+1,2,none⟩) hN1 (.slice Ak i ck)
    have hK2:=((hoK.setCell (p:=⟨w.heap.size+1,0,none⟩) hK1 (.int .i64 (o : Int))).setCell (p:=⟨w.heap.size+1,1,none⟩) hK1 (.slice A4 n c4)).setCell (p:=⟨w.heap.size+1,2,none⟩) hK1 (.slice Ak i ck)
    have hb2:=(((below_two Hz hb).setCell (p:=⟨w.heap.size+1,0,none⟩) (by simp only;omega) (.int .i64 (o : Int))).setCell (p:=⟨w.heap.size+1,1,none⟩) (by simp only;omega) (.slice A4 n c4)).setCell (p:=⟨w.heap.size+1,2,none⟩) (by simp only;omega) (.slice Ak i ck)
    rw [List.take_of_length_le (by have:=HRl.out;omega)] at hPs
    have hP2 : PatsX (((wr.setCell ⟨w.heap.size+1,0,none⟩ (.int .i64 (o : Int))).setCell ⟨w.heap.size+1,1,none⟩ (.slice A4 n c4)).setCell ⟨w.heap.size+1,2,none⟩ (.slice Ak i ck)) (fun b=>w.heap.size≤b) RL vs' :=
     hPs.keep ⟨by simp [World.setCell],fun b hbx _=>by
      have h1 : b ≠ w.heap.size+1:=by have:=hbx.1.1;omega
      exact ((Below.heap_setCell _ ⟨w.heap.size+1,2,none⟩ _ b h1).trans (Below.heap_setCell _ ⟨w.heap.size+1,1,none⟩ _ b h1)).trans (Below.heap_setCell _ ⟨w.heap.size+1,0,none⟩ _ b h1),fun b hbx _=>by have:=hbx.1.1;omega⟩
    refine ⟨(o,(A4,n,c4),(Ak,i,ck)),rfl,?_,hb2⟩
    simp only [PatX]
    exact ⟨trivial,SlX.own hN2 (by decide) (fun a ha=>by have:=(hoN.lt a ha).1;omega),vs',SlX.own hK2 (by decide) (fun a ha=>by have:=(hoK.lt a ha).1;omega),hP2⟩
theorem jreverse_all : ∀ (z : Nat) (p : Pat),sizeP p≤z→sizeP p≤2048→KidRev p:=by
 intro z
 induction z with
 | zero=>intro p hz;have:=sizeP_pos p;omega
 | succ z ih =>
  intro p hz hs X v w hp hg
  obtain ⟨op,cs,ks⟩:=p
  have hzl : sizeL ks≤z:=by unfold sizeP at hz;omega
  have hsl : sizeL ks≤2047:=by unfold sizeP at hs;omega
  exact jreverse_step X op cs ks v w hp hg (by omega) (fun p hp=>by
   obtain ⟨i,hi,e⟩:=List.getElem_of_mem hp
   have h6:=sizeL_at (ks:=ks) (i:=i) (p:=p) (by rw [List.getElem?_eq_getElem hi,e])
   exact ih p (by omega) (by omega))
theorem res_Rev (w : World) (b : Nat) (v : Pv) (tmps : Array Value) (ht : tmps.getD 2 undef = .pointer (some ⟨b,0,none⟩)) (hc : PCell w b v) : (results Tryz.f202 tmps).run Tryz.prog w = .ok (valPt v) w:=by
 have ht' : tmps[2]?.getD undef = .pointer (some ⟨b,0,none⟩):=by simpa [Array.getD_eq_getD_getElem?] using ht
 obtain ⟨h0,h1,h2⟩:=hc
 simp [results,Tryz.results202,go_sem,ht',h0,h1,h2,valPt]
theorem jReverse_any (X : Nat→Prop) (p : Pat) (v : Pv) (w : World) (hp : PatX w X p v) (hg : goodP 64 p = true) (hs : sizeP p≤2048) :
  Calls Tryz.prog 202 #[valPt v] w fun e w'=>∃ v',e = .returned (valPt v')∧PatX w' (fun b=>w.heap.size≤b) (revP p) v'∧Below w.heap.size w w':=by
 have HP:=Lib.hid hp
 have HG:=Lib.hid (fun W (h : PatX W X p v)=>jGood_any X p v W h (goodP_mono (by omega) hg) hs)
 have HR:=Lib.hid (fun W (h : PatX W X p v)=>jreverse_all (sizeP p) p (Nat.le_refl _) hs X v W h hg)
 clear hp hg
 unfold valPt at HG HR ⊢
 obtain ⟨o,⟨A,n,c⟩,⟨B,m,d⟩⟩:=v
 simp only at HG HR HP ⊢
 have hb0 : Blk ((w.alloc (.cells #[.int .i64 (o : Int),.slice A n c,.slice B m d] 207)).alloc (.cells #[.int .i64 0,.slice none 0 0,.slice none 0 0] 207)) w.heap.size 207 #[.int .i64 (o : Int),.slice A n c,.slice B m d]:=(Blk.new _ _ _).alloc _
 have hbr : Blk ((w.alloc (.cells #[.int .i64 (o : Int),.slice A n c,.slice B m d] 207)).alloc (.cells #[.int .i64 0,.slice none 0 0,.slice none 0 0] 207)) (w.heap.size+1) 207 #[.int .i64 0,.slice none 0 0,.slice none 0 0]:=by
  have:=Blk.new (w.alloc (.cells #[.int .i64 (o : Int),.slice A n c,.slice B m d] 207)) 207 #[.int .i64 0,.slice none 0 0,.slice none 0 0]
  simpa using this
 have Hz : Below w.heap.size w ((w.alloc (.cells #[.int .i64 (o : Int),.slice A n c,.slice B m d] 207)).alloc (.cells #[.int .i64 0,.slice none 0 0,.slice none 0 0] 207)):=((Below.refl _ _).alloc (Nat.le_refl _) _).alloc (by simp) _
 have hw2 : w.heap.size+2≤((w.alloc (.cells #[.int .i64 (o : Int),.slice A n c,.slice B m d] 207)).alloc (.cells #[.int .i64 0,.slice none 0 0,.slice none 0 0] 207)).heap.size:=by simp
 have x0:=hb0.cell 0
 have x1:=hb0.cell 1
 have x2:=hb0.cell 2
 simp only [zG,zI,zH] at x0 x1 x2
 go_enter Tryz.func202,Tryz.ntmps202
 go_wp2_with fail
 generalize ((w.alloc (.cells #[.int .i64 (o : Int),.slice A n c,.slice B m d] 207)).alloc (.cells #[.int .i64 0,.slice none 0 0,.slice none 0 0] 207)) = w1 at hb0 hbr Hz hw2 x0 x1 x2 ⊢
 refine (HG.out w1 (HP.out.below Hz)).mono ?_
 rintro e w2 ⟨rfl,hb2⟩
 have hbw:=below_two Hz hb2
 replace x0:=cell_keep x0 hb2
 replace x1:=cell_keep x1 hb2
 replace x2:=cell_keep x2 hb2
 have HR2:=Lib.hid (HR.out w2 (HP.out.below hbw))
 clear HG HR
 go_wp2_with fail
 refine HR2.out.mono ?_
 rintro e w3 ⟨⟨o',⟨A1,n1,c1⟩,⟨A2,n2,c2⟩⟩,rfl,hp3,hb3⟩
 have hBr:=(hbr.below hb2).below hb3
 have hz2:=hb2.size
 have r0:=hBr.cell 0
 have r1:=hBr.cell 1
 have r2:=hBr.cell 2
 have f0:=hBr.frozen 0
 have f1:=hBr.frozen 1
 have f2:=hBr.frozen 2
 simp only [zG,zI,zH] at r0 r1 r2
 clear x0 x1 x2
 go_wp2
 have hf:=((hBr.set_ 0 (.int .i64 (o' : Int))).set_ 1 (.slice A1 n1 c1)).set_ 2 (.slice A2 n2 c2)
 refine bodyPost_ret (res_Rev _ (w.heap.size+1) (o',(A1,n1,c1),(A2,n2,c2)) _ rfl (PCell.of_blk (by simpa using hf))) rfl ?_
 have hb4:=(((below_two hbw hb3).setCell (p:=⟨w.heap.size+1,0,none⟩) (by simp only;omega) (.int .i64 (o' : Int))).setCell (p:=⟨w.heap.size+1,1,none⟩) (by simp only;omega) (.slice A1 n1 c1)).setCell (p:=⟨w.heap.size+1,2,none⟩) (by simp only;omega) (.slice A2 n2 c2)
 refine ⟨(o',(A1,n1,c1),(A2,n2,c2)),rfl,hp3.keep ⟨by simp [World.setCell],fun b hbx _=>?_,fun b hbx _=>by omega⟩,hb4⟩
 have h1 : b ≠ w.heap.size+1:=by omega
 exact ((Below.heap_setCell _ ⟨w.heap.size+1,2,none⟩ _ b h1).trans (Below.heap_setCell _ ⟨w.heap.size+1,1,none⟩ _ b h1)).trans (Below.heap_setCell _ ⟨w.heap.size+1,0,none⟩ _ b h1)
end
end Go.Proofs.YtglmcknlnoknoaaGreatDoor
