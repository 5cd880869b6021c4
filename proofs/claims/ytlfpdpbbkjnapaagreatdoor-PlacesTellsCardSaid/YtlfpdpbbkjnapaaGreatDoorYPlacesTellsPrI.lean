/- -/
import Derived.Test.YtlfpdpbbkjnapaaGreatDoorYPlacesTells3a
namespace Go.Proofs.YtlfpdpbbkjnapaaGreatDoor
set_option maxRecDepth 100000
set_option maxHeartbeats 40000000
section
open Go.RowKit
theorem own_three {w : World} {t : TypeId} {a b c : Value} {base : Nat} (hb : base≤w.heap.size) : Own (w.alloc (.cells #[a,b,c] t)) base t 3 (some ⟨w.heap.size,0,none⟩) 1 1 [[a,b,c]] :=
 ⟨rfl,by simp,by simp,.inr ⟨w.heap.size,1,#[a,b,c],rfl,hb,heap_alloc_new _ _,Nat.le_refl _,by unfold maxLen;omega,rfl,by simp⟩⟩
theorem altsP_cases2 {ns : List (List UInt8)} {f d k k' : Nat} {acc : List Pat} {pat : Pat} {l rest : List UInt8} (h : altsP ns f d l k acc = some (pat,rest,k')) :
  ∃ c : UInt8,headN (skipB l) = c.toNat∧((c.toNat ≠ 124∧pat = altOf acc∧rest = skipB l∧k' = k∧(rest = []∨∃ r,rest = c :: r∧c.toNat = 41∧0 < d)) ∨
   (c.toNat = 124∧k < 512∧∃ r f' p l1 k1,skipB l = c :: r∧f = f'+1∧branchP ns f' d r (k+1) [] = some (p,l1,k1)∧altsP ns f' d l1 k1 (acc++[p]) = some (pat,rest,k'))):=by
 rcases altsP_cases h with ⟨hs,h1,h2,h3⟩ | ⟨c,r,hs,⟨hc,hk,f',p,l1,k1,h1,h2,h3⟩ | ⟨hc,hd,h1,h2,h3⟩⟩
 ·exact ⟨0,by rw [hs];rfl,.inl ⟨by decide,h1,by rw [hs,h2],h3,.inl h2⟩⟩
 ·exact ⟨c,by rw [hs];rfl,.inr ⟨hc,hk,r,f',p,l1,k1,hs,h1,h2,h3⟩⟩
 ·exact ⟨c,by rw [hs];rfl,.inl ⟨by omega,h1,by rw [hs,h2],h3,.inr ⟨r,h2,hc,hd⟩⟩⟩
theorem altOf_many {l : List Pat} (h : 2≤l.length) : altOf l = .node 3 [] l:=by
 match l,h with
 | [],h=>simp at h
 | [_],h=>simp at h
 | _ :: _ :: _,_=>rfl
theorem res_pattern (w : World) (b : Nat) (v : Pv) (tmps : Array Value) (ht : tmps.getD 2 undef = .pointer (some ⟨b,0,none⟩)) (hc : PCell w b v) : (results Tryz.f210 tmps).run Tryz.prog w = .ok (valPt v) w:=by
 have ht' : tmps[2]?.getD undef = .pointer (some ⟨b,0,none⟩):=by simpa [Array.getD_eq_getD_getElem?] using ht
 obtain ⟨h0,h1,h2⟩:=hc
 simp [results,Tryz.results210,go_sem,ht',h0,h1,h2,valPt]
theorem jpattern_any (p : Nat) (s : ByteArray) (A : Option Addr) (nn cn : Nat) (names : List (List UInt8)) (a d k k' f : Nat) (rest : List UInt8) (pat : Pat) (w : World)
  (HBr : Hid (∀ (f' a k k' : Nat) (pat : Pat) (rest : List UInt8) (W : World),f' < f→RS W p s A nn cn names a d k→a≤s.size→k≤512→branchP names f' d (s.data.toList.drop a) k [] = some (pat,rest,k')→Calls Tryz.prog 239 #[.pointer (some ⟨p,0,none⟩)] W (RdPost W p s A nn cn names d pat rest k')))
  (h : RS w p s A nn cn names a d k) (ha : a≤s.size) (hs : s.size≤1000000) (hk : k≤512)
  (hP : patP names f d (s.data.toList.drop a) k = some (pat,rest,k')) :
  Calls Tryz.prog 210 #[.pointer (some ⟨p,0,none⟩)] w (RdPost w p s A nn cn names d pat rest k'):=by
 obtain ⟨i0,hi0,hz0,hz1,hz2⟩:=info_parts infoPatH
 have hpw:=h.lt
 have HAw:=Lib.hid (fun x (hx : A = some x)=>(h.off x hx).2)
 obtain ⟨f',p1,l1,k1,rfl,hb1,ha1⟩:=patP_cases hP
 have hku:=(parts_up names f').2.2.1 hb1
 have hw0:=h.below ((Below.refl w.heap.size w).alloc (Nat.le_refl _) (.cells #[.int .i64 0,.slice none 0 0,.slice none 0 0] 221))
 have hB0 : Blk (w.alloc (.cells #[.int .i64 0,.slice none 0 0,.slice none 0 0] 221)) w.heap.size 221 #[.int .i64 0,.slice none 0 0,.slice none 0 0]:=Blk.new w _ _
 have HS:=Lib.hid (fun x kk W (h : RS W p s A nn cn names x d kk) (hx : x≤s.size)=>jsees_any p s A nn cn names x d kk W h hx hs)
 have HB1:=Lib.hid (HBr.out f' a k k1 p1 l1 _ (Nat.lt_succ_self f') hw0 ha hk hb1)
 have HA1:=Lib.hid ha1
 have hg0 : w.grownBy (w.alloc (.cells #[.int .i64 0,.slice none 0 0,.slice none 0 0] 221)) (some p):=only_alloc (only_refl w _) _
 clear hP h hb1 ha1 hw0
 go_enter Tryz.func210,Tryz.ntmps210
 go_wp2_with fail
 refine HB1.out.mono ?_
 rintro e w1 hq
 obtain ⟨v1,x1,rfl,hr1,hd1,hx1,hg1,hp1⟩:=hq
 obtain ⟨v0,⟨A1,n1,c1'⟩,⟨A2,n2,c2'⟩⟩:=v1
 have hB1:=hB0.grown hg1 (fun e=>by injection e with e;omega)
 have hz1w:=hB1.lt
 have hal : Below w1.heap.size w1 (w1.alloc (.cells #[.int .i64 (v0 : Int),.slice A1 n1 c1',.slice A2 n2 c2'] 221)):=(Below.refl w1.heap.size w1).alloc (Nat.le_refl _) _
 have hr2:=hr1.below hal
 have hB2:=hB1.below hal
 have hg2:=only_below (only_trans hg0 hg1) hal
 have ho2 : Own (w1.alloc (.cells #[.int .i64 (v0 : Int),.slice A1 n1 c1',.slice A2 n2 c2'] 221)) (w.heap.size+1) 221 3 (some ⟨w1.heap.size,0,none⟩) 1 1 ([(v0,(A1,n1,c1'),(A2,n2,c2'))].map encPt):=own_three (by omega)
 have hps2 : PatsX (w1.alloc (.cells #[.int .i64 (v0 : Int),.slice A1 n1 c1',.slice A2 n2 c2'] 221)) (OffX (w.heap.size+1) (some ⟨w1.heap.size,0,none⟩)) [p1] [(v0,(A1,n1,c1'),(A2,n2,c2'))]:=by
  have h1:=PatX.below (hp1.keep (X':=OffX (w.heap.size+1) (some ⟨w1.heap.size,0,none⟩)) (KeepX.same (fun b h hb=>⟨by simp at h;omega,fun a ha e=>by injection ha with ha;subst ha;simp only at e;omega⟩))) hal
  simp only [PatsX]
  exact ⟨_,[],rfl,h1,rfl⟩
 have HG2 : Hid (altsP names f' d (s.data.toList.drop x1) k1 [p1] = some (pat,rest,k')):=Lib.hid (by rw [hd1];exact HA1.out)
 have hk1:=hku.2 hk
 clear HB1 HA1 hd1 hr1 hg1 hp1 hB1 hB0 hg0 hku
 simp only [valPt]
 go_wp2_with fail
 generalize w1.alloc (.cells #[.int .i64 (v0 : Int),.slice A1 n1 c1',.slice A2 n2 c2'] 221) = V at hr2 hB2 hg2 ho2 hps2 ⊢
 clear hal
 generalize w1.heap.size = g at ho2 hps2 ⊢
 go_loopw [3] (fun v3 wr=>∃ (x kk f0 : Nat) (acc0 : List Pat) (A0 : Option Addr) (n0 c0 : Nat) (vs : List Pv),v3 = .slice A0 n0 c0∧f0≤f'∧n0≤kk+1∧1≤n0∧kk≤512∧RS wr p s A nn cn names x d kk∧Hid (altsP names f0 d (s.data.toList.drop x) kk acc0 = some (pat,rest,k'))∧x≤s.size∧w.grownBy wr (some p)∧Blk wr w.heap.size 221 #[.int .i64 0,.slice none 0 0,.slice none 0 0]∧Own wr (w.heap.size+1) 221 3 A0 n0 c0 (vs.map encPt)∧PatsX wr (OffX (w.heap.size+1) A0) acc0 vs) (fun _ wr=>512 - partsOf wr p)
 case atStart=>exact ⟨x1,k1,f',[p1],some ⟨g,0,none⟩,1,1,[(v0,(A1,n1,c1'),(A2,n2,c2'))],rfl,Nat.le_refl _,by omega,by omega,hk1,hr2,HG2,hx1,hg2,hB2,ho2,hps2⟩
 case round =>
  clear hr2 HG2 hx1 hg2 hB2 ho2 hps2 hk1
  obtain ⟨x,kk,f0,acc0,A0,n0,c0,vs,rfl,hf0,hn0,hn1,hkk,hr,HG,hx,hg,hB,ho,hps⟩:=hrel
  have Hat:=Lib.hid hr.partsOf
  have c5:=hr.c5
  obtain ⟨c,hc,hcs⟩:=altsP_cases2 HG.out
  have Hcs:=Lib.hid hcs
  have h0:=HS.out x kk _ hr hx
  rw [hc] at h0
  have HS1:=Lib.hid h0
  clear h0 hc hcs HG
  go_wp2_with fail
  refine HS1.out.mono ?_
  rintro e w5 ⟨rfl,x5,hr5,hd5,hx5,hg5⟩
  have hB5:=hB.grown hg5 (fun e=>by injection e with e;omega)
  have ho5:=ho.grown hg5 (fun a ha e=>by have:=(ho.lt a ha).1;injection e with e;omega)
  have hps5:=hps.keep (KeepX.grown hg5 (fun r hr h=>by injection hr with hr;subst hr;have:=h.1;omega))
  have hgg:=only_trans hg hg5
  have Hd5:=Lib.hid hd5
  clear hr hB ho hps hg hg5 c5 HS1 hd5
  rcases Hcs.out with ⟨hne,hpe,hre,hke,hend⟩ | ⟨hce,hk5,r,f9,p9,l9,k9,hsk,hfe,hbr,hal9⟩
  ·have t124 : ((c.toNat : Int) == 124) = false:=by rw [beq_eq_false_iff_ne];omega
   have c0':=hr5.c0
   have c1:=hr5.c1
   have c3:=hr5.c3
   have c5:=hr5.c5
   have Hend:=Lib.hid hend
   have Hre:=Lib.hid (hre)
   have Hpk:=Lib.hid (And.intro hpe hke)
   clear Hcs hne hpe hre hke hend
   go_upto_region 6 with fail
   go_cut [71] from 35 to 71 (fun v wx=>v = .bool false∧∃ q,wx = w5.drewN q)
   case first =>
    rcases Hend.out with h1 | ⟨r,h1,h41,hd0⟩
    ·have hxe : ¬ x5 < s.size:=fun hlt=>by
      obtain ⟨b',h2,_⟩:=byte_at s hlt
      have h3:=Hd5.out
      rw [← Hre.out,h1,h2] at h3
      cases h3
     go_quiet (fail)
     go_wp2_with fail
     go_meet
     exact ⟨rfl,nq,rfl⟩
    ·have hlt : x5 < s.size:=Nat.lt_of_not_le fun hle=>by
      have h3:=Hd5.out
      rw [← Hre.out,h1,drop_end s (by omega)] at h3
      cases h3
     obtain ⟨b',h2,hidx⟩:=byte_at s hlt
     have hbc : b' = c:=by
      have h3:=Hd5.out
      rw [← Hre.out,h1,h2] at h3
      injection h3
     subst hbc
     have t41 : ((b'.toNat : Int) == 41) = true:=by rw [beq_iff_eq];omega
     have td : decide (0 < d) = true:=decide_eq_true hd0
     clear h2 h1
     go_quiet (fail)
     go_wp2_with fail
     go_meet
     exact ⟨rfl,nq,rfl⟩
   case rest =>
    obtain ⟨rfl,q,rfl⟩:=hcut
    have hr6:=hr5.drewN q
    have hB6:=hB5.drewN q
    have ho6:=ho5.drewN q
    have hps6 : PatsX (w5.drewN q) (OffX (w.heap.size+1) A0) acc0 vs:=hps5.below (below_refl_drewN w5 q)
    have hg6:=only_drewN hgg q
    clear hr5 hB5 ho5 hps5 hgg c0' c1 c3 c5 Hend t124
    generalize w5.drewN q = w6 at hr6 hB6 ho6 hps6 hg6 ⊢
    have hvl : vs.length = n0:=by have:=ho6.len;simpa using this
    have hal:=hps6.len
    have z0:=hB6.cell 0
    have z1:=hB6.cell 1
    have z2:=hB6.cell 2
    simp only [zG,zI,zH] at z0 z1 z2
    have g0:=hB6.frozen 0
    have g1:=hB6.frozen 1
    have g2:=hB6.frozen 2
    by_cases h1n : n0 = 1
    ·subst h1n
     obtain ⟨v,rfl⟩ : ∃ v,vs = [v]:=List.length_eq_one_iff.1 hvl
     obtain ⟨p0,rfl⟩ : ∃ v,acc0 = [v]:=List.length_eq_one_iff.1 (by omega)
     obtain ⟨v',hv',hpv⟩:=hps6.at_ (k:=0) rfl
     injection hv' with hv'
     subst hv'
     obtain ⟨b0,off0,eA,e0,e1,e2⟩:=(SlX.own ho6 (by decide) (X:=fun b=>w.heap.size+1≤b) (fun a ha=>(ho6.lt a ha).1)).atPt (k:=0) rfl
     simp only at eA
     subst eA
     have HQ:=Lib.hid (pt_end (B:=w.heap.size+1) v hB6 hr6 hpw HAw.out hg6 (by omega) (hpv.keep (KeepX.same (fun b h _=>h.1))))
     obtain ⟨v0,⟨A1,n1,c1'⟩,⟨A2,n2,c2'⟩⟩:=v
     simp only [Nat.zero_mul,Nat.add_zero] at e0 e1 e2
     go_wp2
     obtain ⟨q1,q2,q3,q4⟩:=HQ.out
     refine bodyPost_ret (res_pattern _ w.heap.size (v0,(A1,n1,c1'),(A2,n2,c2')) _ rfl (PCell.of_blk q1)) rfl ?_
     rw [Hpk.out.1,Hpk.out.2]
     exact ⟨_,_,rfl,q2,by rw [Hd5.out,Hre.out],hx5,q3,q4⟩
    ·have t1 : ((n0 : Int) == 1) = false:=by rw [beq_eq_false_iff_ne];omega
     have HQ:=Lib.hid (pt_end (B:=w.heap.size+1) (pat:=.node 3 [] acc0) (3,(none,0,0),(A0,n0,c0)) hB6 hr6 hpw HAw.out hg6 (by omega) (by simp only [PatX];exact ⟨trivial,SlX.nil_ _ _ _,vs,SlX.own ho6 (by decide) (fun a ha=>(ho6.lt a ha).1),hps6.keep (KeepX.same (fun b h _=>h.1))⟩))
     go_wp2
     obtain ⟨q1,q2,q3,q4⟩:=HQ.out
     refine bodyPost_ret (res_pattern _ w.heap.size (3,(none,0,0),(A0,n0,c0)) _ rfl (PCell.of_blk q1)) rfl ?_
     rw [Hpk.out.1,Hpk.out.2,altOf_many (by omega)]
     exact ⟨_,_,rfl,q2,by rw [Hd5.out,Hre.out],hx5,q3,q4⟩
  ·have t124 : ((c.toNat : Int) == 124) = true:=by rw [beq_iff_eq];omega
   have hys : x5 < s.size:=Nat.lt_of_not_le fun hle=>by
    have h1:=Hd5.out
    rw [drop_end s (by omega),hsk] at h1
    cases h1
   have hdr : s.data.toList.drop (x5+1) = r:=by
    obtain ⟨b',h1,_⟩:=byte_at s hys
    have h2:=Hd5.out
    rw [h1,hsk] at h2
    injection h2
   have Hbr : Hid (branchP names f9 d (s.data.toList.drop (x5+1)) (kk+1) [] = some (p9,l9,k9)):=Lib.hid (by rw [hdr];exact hbr)
   have Hal:=Lib.hid hal9
   have hku:=(parts_up names f9).2.2.1 hbr
   have HC:=Lib.hid (jcounts_any p s A nn cn names x5 d kk (x5 : Int) w5 hr5 hk5)
   have c1:=hr5.c1
   clear hal9 hbr hsk hdr Hd5 Hcs
   go_wp2_with fail
   refine HC.out.mono ?_
   rintro e w6 ⟨rfl,hr6,hg6⟩
   have hB6:=hB5.grown hg6 (fun e=>by injection e with e;omega)
   have ho6:=ho5.grown hg6 (fun a ha e=>by have:=(ho5.lt a ha).1;injection e with e;omega)
   have hps6:=hps5.keep (KeepX.grown hg6 (fun r hr h=>by injection hr with hr;subst hr;have:=h.1;omega))
   have hgg6:=only_trans hgg hg6
   clear hr5 hB5 ho5 hps5 hgg hg6 c1 HC
   have c1:=hr6.c1
   have f1:=hr6.f 1
   have hr7:=hr6.setAt (x5+1)
   have ez : ((x5+1 : Nat) : Int) = (x5 : Int)+1:=by omega
   rw [ez] at hr7
   have hB7:=hB6.far (p:=⟨p,1,none⟩) (by simp;omega) (.int .i64 ((x5 : Int)+1))
   have ho7:=ho6.setCell (p:=⟨p,1,none⟩) (fun a ha e=>by have:=(ho6.lt a ha).1;simp only at e;omega) (.int .i64 ((x5 : Int)+1))
   have hk7 : w6.grownBy (w6.setCell ⟨p,1,none⟩ (.int .i64 ((x5 : Int)+1))) (some p):=only_setCell (only_refl _ _) (p:=⟨p,1,none⟩) (.inl rfl) _
   have hps7:=hps6.keep (KeepX.grown hk7 (fun r hr h=>by injection hr with hr;subst hr;have:=h.1;omega))
   have hg7:=only_trans hgg6 hk7
   clear hr6 hB6 ho6 hps6 hgg6 hk7 ez
   go_upto_region 5 with fail
   clear c1 f1
   generalize w6.setCell ⟨p,1,none⟩ (.int .i64 ((x5 : Int)+1)) = V at hr7 hB7 ho7 hps7 hg7 ⊢
   have HB9:=Lib.hid (HBr.out f9 (x5+1) (kk+1) k9 p9 l9 V (by omega) hr7 (by omega) (by omega) Hbr.out)
   have hVz:=hB7.lt
   have hAV : ∀ a,A0 = some a→a.block < V.heap.size:=fun a ha=>(ho7.lt a ha).2
   go_wp2_with fail
   refine HB9.out.mono ?_
   rintro e w9 hq
   obtain ⟨v9,x9,rfl,hr9,hd9',hx9,hg9,hp9⟩:=hq
   have hB9:=hB7.grown hg9 (fun e=>by injection e with e;omega)
   have ho9:=ho7.grown hg9 (fun a ha e=>by have:=(ho7.lt a ha).1;injection e with e;omega)
   have hps9:=hps7.keep (KeepX.grown hg9 (fun r hr h=>by injection hr with hr;subst hr;have:=h.1;omega))
   have hgg9:=only_trans hg7 hg9
   have hpp : PatX w9 (OffX (w.heap.size+1) A0) p9 v9:=hp9.keep (KeepX.same (fun b h _=>⟨by omega,fun a ha e=>by have:=hAV a ha;omega⟩))
   have HG9 : Hid (altsP names f9 d (s.data.toList.drop x9) k9 (acc0++[p9]) = some (pat,rest,k')):=Lib.hid (by rw [hd9'];exact Hal.out)
   clear hB7 ho7 hps7 hg7 hg9 hp9 HB9 Hal hd9' hr7
   obtain ⟨v0,⟨A1,n1,c1'⟩,⟨A2,n2,c2'⟩⟩:=v9
   simp only [valPt]
   have T1:=ho9.alloc (.cells #[.int .i64 (v0 : Int),.slice A1 n1 c1',.slice A2 n2 c2'] 221)
   have T3 : w.heap.size+1≤(w9.alloc (.cells #[.int .i64 (v0 : Int),.slice A1 n1 c1',.slice A2 n2 c2'] 221)).heap.size:=by have:=hB9.lt;simp;omega
   have T2 : (n0+1)*56≤140737488355328:=by omega
   have T4 : ∀ y ∈ [encPt (v0,(A1,n1,c1'),(A2,n2,c2'))],y.length = 3∧∀ u ∈ y,u.oneCell' = true:=encPt_ok [(v0,(A1,n1,c1'),(A2,n2,c2'))]
   have T5 : Rd (w9.alloc (.cells #[.int .i64 (v0 : Int),.slice A1 n1 c1',.slice A2 n2 c2'] 221)) 3 (some ⟨w9.heap.size,0,none⟩) [encPt (v0,(A1,n1,c1'),(A2,n2,c2'))]:=Rd.newAt (by simp) rfl
   have T6 : n0+1≤maxLen:=by unfold maxLen;omega
   go_wp2_with (at_builtin;refine wpList_app rfl (.tmp 30) (.tmp 33) _ rfl (w.heap.size+1) 221 i0 _ 3 56 Tryz.underlying219 hi0 hz0 hz1 hz2 rfl (by omega) A0 n0 c0 (vs.map encPt) rfl T1 _ 1 1 [encPt (v0,(A1,n1,c1'),(A2,n2,c2'))] rfl rfl T5 T4 T6 T2 T3 ?_;intro A3 c3 w10 ho10 hg10 hA10)
   have hb10 : Below w.heap.size w9 w10:=below_app ((Below.refl w.heap.size w9).alloc (by have:=hB9.lt;omega) _) hg10 (by have:=hB9.lt;simp;omega) (fun a ha=>by have:=(ho9.lt a ha).1;omega)
   have hr10:=hr9.belowB hb10 hpw HAw.out
   have hg10' : w.grownBy w10 (some p):=⟨hb10.os.trans hgg9.os,hb10.tape.trans hgg9.tape,hb10.output.trans hgg9.output,Nat.le_trans hgg9.size hb10.size,fun i hi hne=>(hb10.block i hi).trans (hgg9.block i hi hne)⟩
   have hNE : some w.heap.size ≠ A0.map (·.block):=fun e=>by
    cases hA1 : A0 with
    | none=>rw [hA1] at e;cases e
    | some a=>rw [hA1] at e;injection e with e;have e2 : w.heap.size = a.block:=e;have:=(ho9.lt a hA1).1;omega
   have hB10:=(hB9.alloc (.cells #[.int .i64 (v0 : Int),.slice A1 n1 c1',.slice A2 n2 c2'] 221)).grown hg10 hNE
   have hkx : KeepX (OffX (w.heap.size+1) A0) (OffX (w.heap.size+1) A3) w9 w10:=(KeepX.below ((Below.refl w9.heap.size w9).alloc (Nat.le_refl _) (.cells #[.int .i64 (v0 : Int),.slice A1 n1 c1',.slice A2 n2 c2'] 221))).trans ⟨hg10.size,fun b hb hl=>hg10.block b hl (fun e=>by
     cases hA1 : A0 with
     | none=>rw [hA1] at e;cases e
     | some a=>rw [hA1] at e;injection e with e;exact hb.2 a hA1 e),fun b hb hl=>⟨hb.1,fun a ha e=>by
     rcases hA10 with h1 | h1
     ·exact hb.2 a (by rw [← h1];exact ha) e
     ·rw [h1] at ha
      injection ha with ha
      subst ha
      simp at hl e
      omega⟩⟩
   have hps10:=PatsX.snoc (hpp.keep hkx) (hps9.keep hkx)
   have hk9:=hku.1
   have hk9':=hku.2 (by omega)
   refine ⟨⟨x9,k9,f9,acc0++[p9],A3,n0+1,c3,vs++[(v0,(A1,n1,c1'),(A2,n2,c2'))],rfl,by omega,by omega,by omega,hk9',hr10,HG9,hx9,hg10',hB10,by rw [List.map_append];exact ho10,hps10⟩,?_⟩
   rw [hr10.partsOf,Hat.out];omega
theorem jpat_all (p : Nat) (s : ByteArray) (A : Option Addr) (nn cn : Nat) (names : List (List UInt8)) (hs : s.size≤1000000) (hnz : nn≤1000000) : ∀ (z f a d k k' : Nat) (pat : Pat) (rest : List UInt8) (w : World),f≤z→RS w p s A nn cn names a d k→a≤s.size→d≤32→k≤512 →
  patP names f d (s.data.toList.drop a) k = some (pat,rest,k')→Calls Tryz.prog 210 #[.pointer (some ⟨p,0,none⟩)] w (RdPost w p s A nn cn names d pat rest k')
 | 0,f,a,d,k,k',pat,rest,w,hf,_,_,_,_,hP=>by
  obtain ⟨f',_,_,_,h,_⟩:=patP_cases hP
  omega
 | z+1,f,a,d,k,k',pat,rest,w,hf,hr,ha,hd,hk,hP =>
  jpattern_any p s A nn cn names a d k k' f rest pat w (Lib.hid fun f1 a1 k1 k1' pat1 rest1 W hf1 hr1 ha1 hk1 hP1 =>
   jbranch_any p s A nn cn names a1 d k1 k1' f1 rest1 pat1 W (Lib.hid fun f2 a2 k2 k2' c2 r2 pat2 rest2 W2 hf2 hr2 ha2 hsk2 hP2=>by
    cases f2 with
    | zero=>rw [atomP] at hP2;cases hP2
    | succ f2=>exact jatom_any p s A nn cn names a2 d k2 k2' f2 c2 r2 rest2 pat2 W2 (Lib.hid fun d3 a3 k3 k3' pat3 rest3 W3 hr3 ha3 hd3 hk3 hP3=>jpat_all p s A nn cn names hs hnz z f2 a3 d3 k3 k3' pat3 rest3 W3 (by omega) hr3 ha3 hd3 hk3 hP3) hr2 ha2 hs hnz hsk2 hP2)
   hr1 ha1 hs hk1 hP1) hr ha hs hk hP
end
end Go.Proofs.YtlfpdpbbkjnapaaGreatDoor
