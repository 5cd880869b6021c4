/- -/
import Derived.Deep.RegionHeld3
import Derived.Test.YtglmcknlnoknoaaGreatDoorV7a
namespace Go.Proofs.YtglmcknlnoknoaaGreatDoor
set_option maxRecDepth 100000
set_option maxHeartbeats 40000000
section
open Go.RowKit
def PatG (w : World) (p : Pat) (o : Nat) (A : Option Addr) (n c : Nat) (B : Option Addr) (m d : Nat) : Prop:=∃ X,PatX w X p (o,(A,n,c),(B,m,d))∧goodP 64 p = true∧sizeP p≤2048
theorem zsides_any (X : Nat→Prop) (rules : List RuleP) (rest : Bool) (v : Sv) (w : World) (hr : RsX w X rules v) (hok : ∀ r ∈ rules,RuleOk r) (hz : rules.length≤64) :
  Calls Tryz.prog 156 #[valRs v rest] w fun e w'=>∃ (A : Option Addr) (k c : Nat) (vs : List Sdv),e = .returned (.slice A k c)∧Own w' w.heap.size 203 4 A k c (vs.map encSd)∧SidesO w' w.heap.size rules k vs∧k = rules.length∧Below w.heap.size w w':=by
 obtain ⟨k0,hk0,hs0,hs1,hs2⟩:=info_parts infoSd
 obtain ⟨A,m,d⟩:=v
 have hm:=hr.len
 simp only at hm
 have HR:=Lib.hid hr
 have HOk:=Lib.hid hok
 have Hm:=Lib.hid hm
 have hmz : m≤64:=by omega
 unfold valRs
 simp only
 clear hr hok hm hz
 have Hz : Below w.heap.size w (w.alloc (.cells #[.slice A m d,.bool rest] 110)):=(Below.refl _ _).alloc (Nat.le_refl _) _
 have hb0 : Blk (w.alloc (.cells #[.slice A m d,.bool rest] 110)) w.heap.size 110 #[.slice A m d,.bool rest]:=Blk.new _ _ _
 go_enter Tryz.func156,Tryz.ntmps156
 go_wp2_with fail
 generalize (w.alloc (.cells #[.slice A m d,.bool rest] 110)) = w1 at Hz hb0 ⊢
 have k00:=hb0.cell 0
 simp only [zG,zH] at k00
 clear hb0
 go_loopw [3,4,5] (fun u z _ wr=>∃ (i : Nat) (B : Option Addr) (c : Nat) (vs : List Sdv),u = .slice B i c∧z = .int .i64 i∧i≤m∧Own wr w1.heap.size 203 4 B i c (vs.map encSd)∧SidesO wr w1.heap.size rules i vs∧Below w1.heap.size w1 wr) (fun _ z _ _=>m - (intOf z).toNat)
 case atStart=>exact ⟨0,none,0,[],rfl,rfl,by omega,Own.nil_ _ _ _ _,⟨rfl,fun j r u _ hu=>by simp at hu⟩,Below.refl _ _⟩
 case round =>
  obtain ⟨i,B,c,vs,rfl,rfl,hi,ho,hS,hb⟩:=hrel
  have hbw:=below_two Hz hb
  have k0':=cell_keep k00 hb
  by_cases hlt : i < m
  ·obtain ⟨r,hri⟩ : ∃ r,rules[i]? = some r:=⟨_,List.getElem?_eq_getElem (by have:=Hm.out;omega)⟩
   obtain ⟨b,off,u,e,hru,x0,x1,x2,x3,x4,x5,x6,x7,x8⟩:=(HR.out.below hbw).at_ hri
   simp only at e
   subst e
   obtain ⟨u1,u2,u3,⟨o4,⟨A4,n4,c4⟩,⟨B4,m4,d4⟩⟩,⟨o5,⟨A5,n5,c5⟩,⟨B5,m5,d5⟩⟩⟩:=u
   simp only at x0 x1 x2 x3 x4 x5 x6 x7 x8
   have hokr:=HOk.out r (List.mem_of_getElem? hri)
   have HGl:=Lib.hid (fun V (h : Below wr.heap.size wr V)=>(show PatG V r.left o4 A4 n4 c4 B4 m4 d4 from ⟨X,hru.left.below h,hokr.left,hokr.sl⟩))
   have HGr:=Lib.hid (fun V (h : Below wr.heap.size wr V)=>(show PatG V r.right o5 A5 n5 c5 B5 m5 d5 from ⟨X,hru.right.below h,hokr.right,hokr.sr⟩))
   have Hri:=Lib.hid hri
   have HRv:=Lib.hid (fun V (p : Pat) (o n c m d : Nat) (A B : Option Addr) (h : PatG V p o A n c B m d)=>(show Calls Tryz.prog 202 #[.agg #[.int .i64 (o : Int),.slice A n c,.slice B m d]] V (fun e w'=>∃ v' : Pv,e = .returned (valPt v')∧PatG w' (revP p) v'.1 v'.2.1.1 v'.2.1.2.1 v'.2.1.2.2 v'.2.2.1 v'.2.2.2.1 v'.2.2.2.2∧Below V.heap.size V w') from by
    obtain ⟨X,h1,h2,h3⟩:=h
    have hh:=jReverse_any X p _ V h1 h2 h3
    rw [show valPt (o,(A,n,c),(B,m,d)) = .agg #[.int .i64 (o : Int),.slice A n c,.slice B m d] from rfl] at hh
    refine hh.mono ?_
    rintro e w' ⟨v',rfl,hp',hb'⟩
    exact ⟨v',rfl,⟨_,hp',rev_good p h2,by rw [rev_size];exact h3⟩,hb'⟩))
   have HFs:=Lib.hid (fun V (p : Pat) (o n c m d : Nat) (A B : Option Addr) (h : PatG V p o A n c B m d)=>(show Calls Tryz.prog 201 #[.agg #[.int .i64 (o : Int),.slice A n c,.slice B m d]] V (fun e w'=>∃ (A : Option Addr) (n c : Nat),e = .returned (.slice A n c)∧Own w' V.heap.size 3 1 A n c ((sortU (firstsB p)).map encN)∧Below V.heap.size V w') from by
    obtain ⟨X,h1,h2,h3⟩:=h
    have hh:=jFirsts_any X p _ V h1 h2 h3
    rw [show valPt (o,(A,n,c),(B,m,d)) = .agg #[.int .i64 (o : Int),.slice A n c,.slice B m d] from rfl] at hh
    exact hh))
   obtain ⟨yl,Hyl⟩ : ∃ yl,Hid (yl = (sideP r).noL):=⟨_,Lib.hid rfl⟩
   obtain ⟨yr,Hyr⟩ : ∃ yr,Hid (yr = (sideP r).noR):=⟨_,Lib.hid rfl⟩
   have HEl:=Lib.hid (fun V (h : PatG V r.left o4 A4 n4 c4 B4 m4 d4)=>(show Calls Tryz.prog 203 #[.agg #[.int .i64 (o4 : Int),.slice A4 n4 c4,.slice B4 m4 d4]] V (fun e w'=>e = .returned (.bool yl)∧Below V.heap.size V w') from by
    obtain ⟨X,h1,h2,h3⟩:=h
    have hh:=jEmpty_any X r.left _ V h1 h2 h3
    rw [show valPt (o4,(A4,n4,c4),(B4,m4,d4)) = .agg #[.int .i64 (o4 : Int),.slice A4 n4 c4,.slice B4 m4 d4] from rfl,show emptyB r.left = yl from Hyl.out.symm] at hh
    exact hh))
   have HEr:=Lib.hid (fun V (h : PatG V r.right o5 A5 n5 c5 B5 m5 d5)=>(show Calls Tryz.prog 203 #[.agg #[.int .i64 (o5 : Int),.slice A5 n5 c5,.slice B5 m5 d5]] V (fun e w'=>e = .returned (.bool yr)∧Below V.heap.size V w') from by
    obtain ⟨X,h1,h2,h3⟩:=h
    have hh:=jEmpty_any X r.right _ V h1 h2 h3
    rw [show valPt (o5,(A5,n5,c5),(B5,m5,d5)) = .agg #[.int .i64 (o5 : Int),.slice A5 n5 c5,.slice B5 m5 d5] from rfl,show emptyB r.right = yr from Hyr.out.symm] at hh
    exact hh))
   clear hru hokr hri
   go_upto_region 5 with fail
   go_cut [5] from 13 to 17 (fun v wx=>∃ g : Nat,v = .pointer (some ⟨g,0,none⟩)∧Blk wx g 209 #[.bool u1,.bool u2,.bool u3,.int .i64 (o4 : Int),.slice A4 n4 c4,.slice B4 m4 d4,.int .i64 (o5 : Int),.slice A5 n5 c5,.slice B5 m5 d5]∧wr.heap.size≤g∧Below wr.heap.size wr wx)
   case first =>
    go_wp2
    go_meet
    exact ⟨wr.heap.size,rfl,Blk.new _ _ _,Nat.le_refl _,(Below.refl _ _).alloc (Nat.le_refl _) _⟩
   case rest =>
    obtain ⟨g,rfl,hG,hgl,hbU⟩:=hcut
    have HSx : Hid (∀ V,Blk V g 209 #[.bool u1,.bool u2,.bool u3,.int .i64 (o4 : Int),.slice A4 n4 c4,.slice B4 m4 d4,.int .i64 (o5 : Int),.slice A5 n5 c5,.slice B5 m5 d5]→V.cell? ⟨g,3,none⟩ = some (.int .i64 (o4 : Int))∧V.cell? ⟨g,4,none⟩ = some (.slice A4 n4 c4)∧V.cell? ⟨g,5,none⟩ = some (.slice B4 m4 d4)∧V.cell? ⟨g,6,none⟩ = some (.int .i64 (o5 : Int))∧V.cell? ⟨g,7,none⟩ = some (.slice A5 n5 c5)∧V.cell? ⟨g,8,none⟩ = some (.slice B5 m5 d5)):=Lib.hid (fun V h=>⟨h.cell 3,h.cell 4,h.cell 5,h.cell 6,h.cell 7,h.cell 8⟩)
    have hoU:=ho.below hbU
    have hSU:=hS.below hbU
    have HgB : Hid (∀ a,B = some a→a.block ≠ g):=Lib.hid (fun a ha=>by have:=(ho.lt a ha).2;omega)
    replace HGl:=Lib.hid (fun V (h : Below wc.heap.size wc V)=>HGl.out V (below_two hbU h))
    replace HGr:=Lib.hid (fun V (h : Below wc.heap.size wc V)=>HGr.out V (below_two hbU h))
    have hb0D : Below wc.heap.size wc wc.drew:=(Below.refl _ _).drew
    have hszb:=hb.size
    go_wp2_with fail
    refine wp_region_last (S:=fun V=>V.cell? ⟨g,3,none⟩ = some (.int .i64 (o4 : Int))∧V.cell? ⟨g,4,none⟩ = some (.slice A4 n4 c4)∧V.cell? ⟨g,5,none⟩ = some (.slice B4 m4 d4)∧V.cell? ⟨g,6,none⟩ = some (.int .i64 (o5 : Int))∧V.cell? ⟨g,7,none⟩ = some (.slice A5 n5 c5)∧V.cell? ⟨g,8,none⟩ = some (.slice B5 m5 d5)) 17 rfl (by kernel_rfl) (by kernel_rfl) (by kernel_rfl) (HSx.out _ hG.drew) (fun hHeld=>?_)
    simp only [List.dropLast_cons_cons,List.dropLast_singleton]
    refine tkH (i:=0) (v:=?_) rfl ?_ ?_;rotate_left;focus ((intro w hSw;(try dsimp only at hSw);go_simp);try with_reducible rfl)
    (try simp only [Act.put,zA,zC,zD,zE,zF])
    refine tkH (i:=1) (v:=?_) rfl ?_ ?_;rotate_left;focus ((intro w hSw;(try dsimp only at hSw);go_simp);try with_reducible rfl)
    (try simp only [Act.put,zA,zB,zC,zD,zE,zF])
    refine tkH (i:=2) (v:=?_) rfl ?_ ?_;rotate_left;focus ((intro w hSw;(try dsimp only at hSw);go_simp);try with_reducible rfl)
    (try simp only [Act.put,zA,zB,zC,zD,zE,zF])
    refine tkH (i:=5) (v:=?_) rfl ?_ ?_;rotate_left;focus ((intro w hSw;(try dsimp only at hSw);go_simp);try with_reducible rfl)
    (try simp only [Act.put,zA,zB,zC,zD,zE,zF])
    refine tkH (i:=6) (v:=?_) rfl ?_ ?_;rotate_left;focus ((intro w hSw;(try dsimp only at hSw);go_simp);try with_reducible rfl)
    (try simp only [Act.put,zA,zB,zC,zD,zE,zF])
    refine tkH (i:=8) (v:=?_) rfl ?_ ?_;rotate_left;focus ((intro w hSw;(try dsimp only at hSw);go_simp);try with_reducible rfl)
    (try simp only [Act.put,zA,zB,zC,zD,zE,zF])
    refine tkH (i:=9) (v:=?_) rfl ?_ ?_;rotate_left;focus ((intro w hSw;(try dsimp only at hSw);go_simp);try with_reducible rfl)
    (try simp only [Act.put,zA,zB,zC,zD,zE,zF])
    refine tkH (i:=11) (v:=?_) rfl ?_ ?_;rotate_left;focus ((intro w hSw;(try dsimp only at hSw);go_simp);try with_reducible rfl)
    (try simp only [Act.put,zA,zB,zC,zD,zE,zF])
    refine tkH (i:=12) (v:=?_) rfl ?_ ?_;rotate_left;focus ((intro w hSw;(try dsimp only at hSw);go_simp);try with_reducible rfl)
    (try simp only [Act.put,zA,zB,zC,zD,zE,zF])
    refine wpAnyH_ready (rs:=[3]) (by kernel_rfl) (by simp) ?_
    refine AllReadyH.cons rfl (fun K hK=>?_) AllReadyH.nil
    go_simp
    refine (HRv.out _ _ _ _ _ _ _ _ _ (HGl.out _ hb0D)).mono ?_
    rintro e w3 ⟨⟨o1,⟨A1,n1,c1⟩,⟨A2,n2,c2⟩⟩,rfl,hp3,h3⟩
    have hG3:=hG.drew.below h3
    have hB3:=below_two hb0D h3
    refine hK.out _ _ (HSx.out _ hG3) (fun hHeld=>?_)
    clear hK K
    (try simp only [Act.put,zA,zB,zC,zD,zE,zF])
    refine wpAnyH_ready (rs:=[4]) (by kernel_rfl) (by simp) ?_
    refine AllReadyH.cons rfl (fun K hK=>?_) AllReadyH.nil
    go_simp
    refine (HFs.out _ _ _ _ _ _ _ _ _ hp3).mono ?_
    rintro e w4 ⟨Al,nl,cl,rfl,ho4,h4⟩
    have hG4:=hG3.below h4
    have hB4:=below_two hB3 h4
    refine hK.out _ _ (HSx.out _ hG4) (fun hHeld=>?_)
    clear hK K
    (try simp only [Act.put,zA,zB,zC,zD,zE,zF])
    refine wpAnyH_ready (rs:=[7]) (by kernel_rfl) (by simp) ?_
    refine AllReadyH.cons rfl (fun K hK=>?_) AllReadyH.nil
    go_simp
    refine (HFs.out _ _ _ _ _ _ _ _ _ (HGr.out _ hB4)).mono ?_
    rintro e w5 ⟨Ar,nr,cr,rfl,ho5,h5⟩
    have hG5:=hG4.below h5
    have hB5:=below_two hB4 h5
    refine hK.out _ _ (HSx.out _ hG5) (fun hHeld=>?_)
    clear hK K
    (try simp only [Act.put,zA,zB,zC,zD,zE,zF])
    refine wpAnyH_ready (rs:=[10]) (by kernel_rfl) (by simp) ?_
    refine AllReadyH.cons rfl (fun K hK=>?_) AllReadyH.nil
    go_simp
    refine (HEl.out _ (HGl.out _ hB5)).mono ?_
    rintro e w6 ⟨rfl,h6⟩
    have hG6:=hG5.below h6
    have hB6:=below_two hB5 h6
    refine hK.out _ _ (HSx.out _ hG6) (fun hHeld=>?_)
    clear hK K
    (try simp only [Act.put,zA,zB,zC,zD,zE,zF])
    refine wpAnyH_ready (rs:=[13]) (by kernel_rfl) (by simp) ?_
    refine AllReadyH.cons rfl (fun K hK=>?_) AllReadyH.nil
    go_simp
    refine (HEr.out _ (HGr.out _ hB6)).mono ?_
    rintro e w7 ⟨rfl,h7⟩
    have hG7:=hG6.below h7
    have hB7:=below_two hB6 h7
    refine hK.out _ _ (HSx.out _ hG7) (fun hHeld=>?_)
    clear hK K
    (try simp only [Act.put,zA,zB,zC,zD,zE,zF])
    refine tkH (i:=14) (v:=?_) rfl ?_ ?_;rotate_left;focus ((intro w hSw;(try dsimp only at hSw);go_simp);try with_reducible rfl)
    (try simp only [Act.put,zA,zB,zC,zD,zE,zF])
    refine wpAnyH_ready (rs:=[15]) (by kernel_rfl) (by simp) ?_
    refine AllReadyH.cons rfl (fun K hK=>?_) AllReadyH.nil
    go_simp
    refine hK.out _ _ (HSx.out _ (hG7.alloc _)) (fun hHeld=>?_)
    clear hK K
    (try simp only [Act.put,zA,zB,zC,zD,zE,zF])
    refine wpAnyH_ready (rs:=[16]) (by kernel_rfl) (by simp) ?_
    refine AllReadyH.cons rfl (fun K hK=>?_) AllReadyH.nil
    refine step_app rfl (.tmp 18) (.tmp 33) _ rfl w1.heap.size 203 k0 _ 4 56 Tryz.underlying200 hk0 hs0 hs1 hs2 rfl (by omega) B i c (vs.map encSd) rfl ((hoU.below hB7).alloc _) _ 1 1 [encSd ((Al,nl,cl),(Ar,nr,cr),yl,yr)] rfl rfl (Rd.newAt (by simp) rfl) (encSd_ok [((Al,nl,cl),(Ar,nr,cr),yl,yr)]) (by unfold maxLen;omega) (by omega) (by have:=hB7.size;have:=hbU.size;simp;omega) ?_
    intro A9 c9 w9 ho9 hg9 hA9
    have hRow : some g ≠ B.map (·.block):=fun e=>by
     cases hBB : B with
     | none=>rw [hBB] at e;cases e
     | some a=>rw [hBB] at e;injection e with e;exact HgB.out a hBB e.symm
    refine hK.out _ _ (HSx.out _ ((hG7.alloc _).grown hg9 hRow)) (fun hHeld=>?_)
    clear hK K
    (try simp only [Act.put,zA,zB,zC,zD,zE,zF])
    refine wpAnyH_done (by kernel_rfl) ?_ _
    refine tailQ_end (wpOp_step (i:=17) rfl (fun K hK=>?_))
    go_simp
    refine hK _ _ ?_
    clear hK K
    have hal : Below w7.heap.size w7 (w7.alloc (.cells #[.slice Al nl cl,.slice Ar nr cr,.bool yl,.bool yr] 203)):=(Below.refl _ _).alloc (Nat.le_refl _) _
    have hO4:=((((ho4.more (b':=w1.heap.size) (by have:=hb0D.size;have:=h3.size;have:=hbU.size;omega)).below h5).below h6).below h7).below hal
    have hO5:=(((ho5.more (b':=w1.heap.size) (by have:=hB4.size;have:=hbU.size;omega)).below h6).below h7).below hal
    have hSn:=(((hSU.below hB7).below hal).snoc Hri.out (u:=((Al,nl,cl),(Ar,nr,cr),yl,yr)) ⟨hO4,hO5,Hyl.out,Hyr.out⟩).grown ((hoU.below hB7).below hal) hg9
    have hb9:=below_app (below_two (below_two hb hbU) (below_two hB7 hal)) hg9 (by have:=hB7.size;have:=hbU.size;simp;omega) (fun a ha=>(hoU.lt a ha).1)
    go_wp2
    go_roundw
    case rel=>exact ⟨i+1,A9,c9,vs++[((Al,nl,cl),(Ar,nr,cr),yl,yr)],rfl,by go_num,by omega,by rw [List.map_append];exact ho9,hSn,hb9⟩
    case measure=>simp [intOf];omega
  ·obtain rfl : i = m:=by omega
   go_wp2
   go_ret
   exact ⟨B,i,c,vs,rfl,ho.more Hz.size,⟨hS.len,fun j r u h1 h2=>by have h3:=hS.at_ j r u h1 h2;exact ⟨h3.left.more Hz.size,h3.right.more Hz.size,h3.noL,h3.noR⟩⟩,Hm.out,hbw⟩
end
end Go.Proofs.YtglmcknlnoknoaaGreatDoor
