/- -/
import Derived.Deep.RegionHeld3
import Derived.Deep.CutRange
import Derived.Deep.CutBlock
import Derived.Test.YtglmcknlnoknoaaGreatDoorV9a
import Derived.Test.YtglmcknlnoknoaaGreatDoorV0b
import Derived.Test.YtglmcknlnoknoaaGreatDoorV6a
import Derived.Test.YtglmcknlnoknoaaGreatDoorV5a
namespace Go.Proofs.YtglmcknlnoknoaaGreatDoor
set_option maxRecDepth 100000
set_option maxHeartbeats 40000000
section
open Go.RowKit
theorem rulesL_ok : ∀ r ∈ rulesL,RuleOk r:=okRu_spec (by kernel_rfl)
theorem line_nms : nmsOk linesD.names = true:=by kernel_rfl
theorem must_names (k : Nat) (nm : List UInt8) (h : linesD.names[k]? = some nm) : lMust (k : Int) = (nm == [66,107] || nm == [76,102] || nm == [67,114]):=by
 have hk : k < 26:=by rw [← names_len];exact (List.getElem?_eq_some_iff.1 h).1
 have : ∀ k : Nat,k < 26→∀ nm ∈ linesD.names[k]?,lMust (k : Int) = (nm == [66,107] || nm == [76,102] || nm == [67,114]):=by decide
 exact this k hk nm h
theorem xChances_any (s : ByteArray) (w : World) (hs : s.size≤90000) :
  Calls Tryz.prog 39 #[.string s] w fun e w'=>∃ (A : Option Addr) (k c : Nat),e = .returned (.slice A k c)∧Own w' w.heap.size 40 2 A k c ((lChances gL s).map encC)∧Below w.heap.size w w':=by
 obtain ⟨i0,hi0,hz0,hz1,hz2⟩:=info_parts infoC
 have HV : Hid (boundsM rulesL true linesD.get s = lineB s):=Lib.hid (lineB_rules s)
 have HD:=Lib.hid (fun W=>xDb_any W)
 have HN:=Lib.hid (fun base p x W (h : RfB W base p x linesD.names linesD.full)=>vNames_any base p x linesD.names linesD.full W h (nms_len line_nms))
 have HB:=Lib.hid (fun base p x v X W (h : RfB W base p x linesD.names linesD.full) (hr : RsX W X rulesL v)=>zBounds_any base p x linesD rulesL true v X s W h linesOk.1 linesOk.2.1 hr rulesL_ok (by decide) hs)
 have HRn:=Lib.hid (fun W=>sRunes_any s W (by omega))
 rw [HV.out] at HB
 obtain ⟨B,Hb⟩ : ∃ B,Hid (lineB s = B):=⟨_,Lib.hid rfl⟩
 obtain ⟨XR,Hx⟩ : ∃ B,Hid (runesP s = B):=⟨_,Lib.hid rfl⟩
 have hBz : B.length≤s.size+1:=by rw [← Hb.out];exact lineB_len s
 have hXz : XR.length≤s.size:=by rw [← Hx.out];exact runesP_len s
 have HBr : Hid (B.Pairwise (· < ·)):=Lib.hid (by rw [← Hb.out];exact lineB_rise s)
 have HXc : Hid (∀ k x y,XR[k]? = some x→XR[k+1]? = some y→x.2.2 < y.2.2):=Lib.hid (fun k x y h1 h2=>by
  rw [← Hx.out] at h1 h2
  have hb:=runesP_bd y (List.mem_of_getElem? h2)
  rcases contig_at (runesP_contig s) h1 with ⟨z,h3,h4⟩ | ⟨h3,h4⟩
  ·rw [h2] at h3;injection h3 with h3;subst h3;omega
  ·have:=(List.getElem?_eq_some_iff.1 h2).1;omega)
 have HS : Hid (∀ k x,XR[k]? = some x→chD s (k+1) = chD s k++(if x.2.2 ∈ B then [(x.2.2,x.2.2 == s.size || lMust (gL x.1))] else [])):=Lib.hid (fun k x h=>by
  rw [← Hb.out];rw [← Hx.out] at h;exact chD_step h)
 have HE : Hid (chD s XR.length = lChances gL s):=Lib.hid (by rw [← Hx.out];exact chD_end s)
 have H0:=Lib.hid (chD_zero s)
 have HLn:=Lib.hid (chD_len s)
 rw [Hb.out] at HB
 rw [Hx.out] at HRn
 clear HV
 go_enter Tryz.func39,Tryz.ntmps39
 generalize hT : ByteArray.mk (List.toArray (List.append _ _)) = R
 have HR : rulesP linesD.names R.data.toList = some ⟨rulesL,true,true⟩:=by rw [← hT];kernel_rfl
 clear hT
 have HO:=Lib.hid (fun A nn cn W (hA : Rd W 1 A (linesD.names.map encNm)) (hAl : ∀ x,A = some x→x.block < W.heap.size) (hl : linesD.names.length = nn)=>oParse_any R.data.toList A nn cn linesD.names ⟨rulesL,true,true⟩ W hA hAl hl line_nms HR)
 rw [show bytesOf R.data.toList = R from bytesOf_data R] at HO
 clear HR
 go_wp2_with fail
 refine (HD.out _).mono ?_
 rintro e w1 ⟨p,x,rfl,hf,hb1⟩
 have HN1:=Lib.hid (HN.out _ p x w1 hf)
 go_wp2_with fail
 refine HN1.out.mono ?_
 rintro e w2 ⟨A,nn,cn,rfl,ho2,hb2⟩
 have HO2:=Lib.hid (HO.out A nn cn w2 (ho2.rd (by decide)) (fun x hx=>(ho2.lt x hx).2) (by have:=ho2.len;simpa using this))
 have hf2:=hf.below hb2
 have hb12:=below_two hb1 hb2
 clear HN1 HN HO HD hf ho2
 go_wp2_with fail
 refine HO2.out.mono ?_
 rintro e w3 ⟨v,rfl,hx3,hb3⟩
 have hf3:=hf2.below hb3
 have hb13:=below_two hb12 hb3
 obtain ⟨A1,n1,c1⟩:=v
 have hal : Below w3.heap.size w3 (w3.alloc (.cells #[.slice A1 n1 c1,.bool true] 110)):=(Below.refl _ _).alloc (Nat.le_refl _) _
 have HB3:=Lib.hid (HB.out _ p x (A1,n1,c1) _ _ (hf3.below hal) (hx3.below hal))
 have hf4:=hf3.below hal
 simp only [valRs] at HB3 ⊢
 clear HO2 hf2 hb12 hb1 hb2 hb3 HB
 go_wp2_with fail
 refine HB3.out.mono ?_
 rintro e w4 ⟨A4,n4,c4,rfl,ho4,hb4⟩
 have hf5:=hf4.below hb4
 have hb14:=below_two hb13 (below_two hal hb4)
 obtain rfl : B.length = n4:=by have:=ho4.len;simpa using this
 clear HB3 hf3 hf4 hal hb4 hx3 hb13
 go_wp2_with fail
 refine (HRn.out w4).mono ?_
 rintro e w5 ⟨A5,n5,c5,rfl,ho5,hb5⟩
 obtain rfl : XR.length = n5:=by have:=ho5.len;simpa using this
 have hb15:=below_two hb14 hb5
 have rdB:=(ho4.below hb5).rd (by decide)
 have rdX:=ho5.rd (by decide)
 have HF:=Lib.hid (hf5.below hb5)
 have hsz5:=hb15.size
 clear HRn ho5 ho4 hb14 hb5 hf5
 go_wp2_with fail
 go_loopw [9,10,11] (fun v u z wr=>∃ (k a n c : Nat) (A : Option Addr) (O : List (Nat × Bool)),v = .slice A n c∧u = .int .i64 a∧z = .int .i64 k∧k≤XR.length∧a≤B.length∧Own wr w5.heap.size 40 2 A n c (O.map encC)∧n≤s.size+1∧Hid (O = chD s k)∧Hid (∀ x,XR[k]? = some x→∀ i b,i < a→B[i]? = some b→b < x.2.2)∧Below w5.heap.size w5 wr) (fun _ _ z _=>XR.length - (intOf z).toNat)
 case atStart=>exact ⟨0,0,0,0,none,[],rfl,rfl,rfl,by omega,by omega,Own.nil_ _ _ _ _,by omega,Lib.hid H0.out.symm,Lib.hid (fun _ _ i b h=>by omega),Below.refl _ _⟩
 case round =>
  obtain ⟨k,a,n,c,A,O,rfl,rfl,rfl,hk,ha,ho,hn,HO,HA,hb⟩:=hrel
  by_cases hlt : k < XR.length
  ·obtain ⟨⟨r,x1,e⟩,hx⟩ : ∃ x,XR[k]? = some x:=⟨_,List.getElem?_eq_getElem hlt⟩
   obtain ⟨bk,off,rfl,d0,d1,d2⟩:=rdX.atRn hx
   simp only at d0 d1 d2
   have Hx2:=Lib.hid hx
   have HA1 : Hid (∀ i b,i < a→B[i]? = some b→b < e):=Lib.hid (HA.out _ hx)
   have HS1 : Hid (chD s (k+1) = O++(if e ∈ B then [(e,e == s.size || lMust (gL r))] else [])):=Lib.hid (by rw [HS.out k _ hx,HO.out])
   have HX1 : Hid (∀ y,XR[k+1]? = some y→e < y.2.2):=Lib.hid (fun y hy=>HXc.out k _ y hx hy)
   have HL1:=Lib.hid (HLn.out (k+1))
   have hez : (e : Nat)≤s.size:=by
    have h:=hx;rw [← Hx.out] at h
    exact (runesP_bd _ (List.mem_of_getElem? h)).2.1
   have hOl : O.length = n:=by have:=ho.len;simpa using this
   have HOl:=Lib.hid hOl
   clear HA HO hx hOl
   obtain ⟨wo,hwo⟩ : ∃ wo,wo = wr:=⟨_,rfl⟩
   subst hwo
   have rdBo:=rdB.below hb
   have D2:=d2
   replace d0:=cell_keep d0 hb
   replace d2:=cell_keep d2 hb
   have hszo:=hb.size
   go_upto_block 2 with fail
   go_cut [10] from 33 to 50 (fun t wx=>∃ a' q : Nat,t = .int .i64 a'∧a'≤B.length∧Hid (∀ i b,i < a'→B[i]? = some b→b < e)∧Hid (∀ b,B[a']? = some b→e≤b)∧wx = wo.drewN q)
   case first =>
    clear ho hn HS1 HX1 HL1 HOl
    go_wp2_with fail
    go_loopw [10] (fun t wq=>∃ a' q : Nat,t = .int .i64 a'∧a'≤B.length∧Hid (∀ i b,i < a'→B[i]? = some b→b < e)∧wq = wo.drewN q) (fun t _=>B.length - (intOf t).toNat)
    case atStart=>exact ⟨a,0,rfl,ha,HA1,rfl⟩
    case round =>
     obtain ⟨a',q,rfl,ha',HK,rfl⟩:=hrel
     by_cases hkn : a' < B.length
     ·obtain ⟨y,hy⟩ : ∃ y,B[a']? = some y:=⟨_,List.getElem?_eq_getElem hkn⟩
      obtain ⟨bo,oo,rfl,hco⟩:=rdBo.atNa hy
      have Hy:=Lib.hid hy
      clear hy
      by_cases hyx : y < e
      ·go_wp2_with fail
       go_quiet (fail)
       go_wp2
       go_roundw
       case rel=>exact ⟨a'+1,_,by go_num,by omega,Lib.hid (fun j z hj hz=>by
        rcases Nat.lt_or_ge j a' with h | h
        ·exact HK.out j z h hz
        ·obtain rfl : j = a':=by omega
         rw [Hy.out] at hz
         injection hz with hz
         omega),by first | rfl | exact World.drewN_drewN _ _ _⟩
       case measure=>simp [intOf];omega
      ·go_wp2_with fail
       go_quiet (fail)
       go_wp2
       go_meet
       exact ⟨a',_,rfl,ha',HK,Lib.hid (fun b hb'=>by rw [Hy.out] at hb';injection hb' with hb';omega),by first | rfl | exact World.drewN_drewN _ _ _⟩
     ·go_wp2_with fail
      go_quiet (fail)
      go_wp2
      go_meet
      exact ⟨a',_,rfl,ha',HK,Lib.hid (fun b hb'=>by rw [List.getElem?_eq_none (by omega)] at hb';cases hb'),by first | rfl | exact World.drewN_drewN _ _ _⟩
   case rest =>
    obtain ⟨a',q,rfl,ha',HK,HG,rfl⟩:=hcut
    have HM : Hid (e ∈ B ↔ B[a']? = some e):=Lib.hid (first_mem HBr.out HK.out HG.out)
    have HA2 : Hid (∀ x,XR[k+1]? = some x→∀ i b,i < a'→B[i]? = some b→b < x.2.2):=Lib.hid (fun x hx i b hi h=>by have:=HX1.out x hx;have:=HK.out i b hi h;omega)
    by_cases hm : e ∈ B
    ·have hy:=HM.out.1 hm
     have hkn : a' < B.length:=(List.getElem?_eq_some_iff.1 hy).1
     obtain ⟨bo,oo,rfl,hco5⟩:=rdB.atNa hy
     have hco:=cell_keep hco5 hb
     have HST:=Lib.hid (fun (V : World) (h : Below w5.heap.size w5 V)=>And.intro (cell_keep hco5 h) (And.intro (cell_keep D2 h) h))
     have HS2 : Hid (chD s (k+1) = O++[(e,e == s.size || lMust (gL r))]):=Lib.hid (by rw [HS1.out,if_pos hm])
     have hn1 : n+1≤s.size+1:=by
      have h:=HL1.out
      rw [HS2.out,List.length_append,HOl.out] at h
      exact h
     have HNm:=Lib.hid (fun W (h : Below w5.heap.size w5 W)=>xNamed_any w.heap.size p x (r : Int) W (HF.out.below h))
     obtain ⟨nm,Hnm⟩ : ∃ nm,Hid (nmL (r : Int) = nm):=⟨_,Lib.hid rfl⟩
     rw [Hnm.out] at HNm
     have HS3 : Hid (chD s (k+1) = O++[(e,e == s.size || (nm == [66,107] || nm == [76,102] || nm == [67,114]))]):=Lib.hid (by
      have hlt : gL (r : Int) < linesD.names.length:=by rw [names_len];exact gL_lt _
      rw [HS2.out,must_names (gL r) nm (by rw [← Hnm.out];unfold nmL;rw [List.getElem?_eq_getElem hlt];rfl)])
     clear hm hy HM HG HK HS1 HS2 HX1 HL1 HA1 HBr HXc HS
     go_wp2_with fail
     go_quiet (fail)
     go_wp2_with fail
     refine (HNm.out _ (below_drewN hb _)).mono ?_
     rintro e6 w6 ⟨rfl,hb6⟩
     have hbo:=below_two (below_refl_drewN wo _) hb6
     have ho6:=ho.below hbo
     have hb06:=below_step hb hbo hszo
     have hbz : Below w5.heap.size w5 w6.drew:=below_drewN hb06 1
     have ho6d : Own w6.drew w5.heap.size 40 2 A n c (O.map encC):=ho6
     have hsz:=hbz.size
     have hsz6:=hb06.size
     have HE:=Lib.hid (show (bytesOf nm).toList = nm by rw [ByteArray.toList_eq,bytesOf_list])
     clear HNm hbo ho6 hb6 ho hco d0 d2 rdBo
     go_wp2_with fail
     refine wp_region_held_drew (S:=fun V=>V.cell? ⟨bo,oo+a',none⟩ = some (.int .i64 (e : Nat))∧V.cell? ⟨bk,off+k*3+2,none⟩ = some (.int .i64 (e : Nat))∧Below w5.heap.size w5 V) (by kernel_rfl) (HST.out _ hbz) (fun hHeld=>?_)
     refine tkH (i:=0) (v:=?_) rfl ?_ ?_;rotate_left;focus ((intro w hSw;(try dsimp only at hSw);go_simp);try with_reducible rfl)
     (try simp only [Act.put,zA,zC,zD,zE,zF])
     refine tkH (i:=1) (v:=?_) rfl ?_ ?_;rotate_left;focus ((intro w hSw;(try dsimp only at hSw);go_simp);try with_reducible rfl)
     (try simp only [Act.put,zA,zB,zC,zD,zE,zF])
     refine tkH (i:=2) (v:=?_) rfl ?_ ?_;rotate_left;focus ((intro w hSw;(try dsimp only at hSw);go_simp);try with_reducible rfl)
     (try simp only [Act.put,zA,zB,zC,zD,zE,zF])
     refine tkH (i:=3) (v:=?_) rfl ?_ ?_;rotate_left;focus ((intro w hSw;(try dsimp only at hSw);go_simp);try with_reducible rfl)
     (try simp only [Act.put,zA,zB,zC,zD,zE,zF])
     refine tkH (i:=4) (v:=?_) rfl ?_ ?_;rotate_left;focus ((intro w hSw;(try dsimp only at hSw);go_simp);try with_reducible rfl)
     (try simp only [Act.put,zA,zB,zC,zD,zE,zF])
     refine tkH (i:=5) (v:=?_) rfl ?_ ?_;rotate_left;focus ((intro w hSw;(try dsimp only at hSw);go_simp);try with_reducible rfl)
     (try simp only [Act.put,zA,zB,zC,zD,zE,zF])
     refine tkH (i:=6) (v:=?_) rfl ?_ ?_;rotate_left;focus ((intro w hSw;(try dsimp only at hSw);go_simp);try with_reducible rfl)
     (try simp only [Act.put,zA,zB,zC,zD,zE,zF])
     refine tkH (i:=7) (v:=?_) rfl ?_ ?_;rotate_left;focus ((intro w hSw;(try dsimp only at hSw);go_simp);try with_reducible rfl)
     (try simp only [Act.put,zA,zB,zC,zD,zE,zF])
     refine tkH (i:=8) (v:=?_) rfl ?_ ?_;rotate_left;focus ((intro w hSw;(try dsimp only at hSw);go_simp);try with_reducible rfl)
     (try simp only [Act.put,zA,zB,zC,zD,zE,zF])
     refine tkH (i:=9) (v:=?_) rfl ?_ ?_;rotate_left;focus ((intro w hSw;(try dsimp only at hSw);go_simp);try with_reducible rfl)
     (try simp only [Act.put,zA,zB,zC,zD,zE,zF])
     refine tkH (i:=10) (v:=?_) rfl ?_ ?_;rotate_left;focus ((intro w hSw;(try dsimp only at hSw);go_simp);try with_reducible rfl)
     (try simp only [Act.put,zA,zB,zC,zD,zE,zF])
     refine tkH (i:=11) (v:=?_) rfl ?_ ?_;rotate_left;focus ((intro w hSw;(try dsimp only at hSw);go_simp);try with_reducible rfl)
     (try simp only [Act.put,zA,zB,zC,zD,zE,zF])
     by_cases he : e = s.size
     ·have HO' : Hid (O++[(e,true)] = chD s (k+1)):=Lib.hid (by rw [HS3.out,show (e == s.size || (nm == [66,107] || nm == [76,102] || nm == [67,114])) = true from by rw [he];simp])
      have te : ((e : Int) == (s.size : Int)) = true:=by rw [he];simp
      clear he HS3 HE
      refine tkH (i:=12) (v:=?_) rfl ?_ ?_;rotate_left;focus ((intro w hSw;(try dsimp only at hSw);go_simp);try with_reducible rfl)
      (try simp only [Act.put,zA,zB,zC,zD,zE,zF])
      refine tkH (i:=13) (v:=?_) rfl ?_ ?_;rotate_left;focus ((intro w hSw;(try dsimp only at hSw);go_simp);try with_reducible rfl)
      (try simp only [Act.put,zA,zB,zC,zD,zE,zF])
      refine wpAnyH_take (i:=14) (v:=undef) rfl (by kernel_rfl) (by kernel_rfl) (by kernel_rfl) (fun _ _ _ h=>h) (Or.inr ⟨by rfl,rfl⟩) (by assumption) ?_
      (try simp only [Act.put,zA,zB,zC,zD,zE,zF])
      refine wpAnyH_take (i:=15) (v:=undef) rfl (by kernel_rfl) (by kernel_rfl) (by kernel_rfl) (fun _ _ _ h=>h) (Or.inr ⟨by rfl,rfl⟩) (by assumption) ?_
      (try simp only [Act.put,zA,zB,zC,zD,zE,zF])
      refine tkH (i:=16) (v:=?_) rfl ?_ ?_;rotate_left;focus ((intro w hSw;(try dsimp only at hSw);go_simp);try with_reducible rfl)
      (try simp only [Act.put,zA,zB,zC,zD,zE,zF])
      refine tkH (i:=17) (v:=?_) rfl ?_ ?_;rotate_left;focus ((intro w hSw;(try dsimp only at hSw);go_simp);try with_reducible rfl)
      (try simp only [Act.put,zA,zB,zC,zD,zE,zF])
      refine wpAnyH_take (i:=18) (v:=undef) rfl (by kernel_rfl) (by kernel_rfl) (by kernel_rfl) (fun _ _ _ h=>h) (Or.inr ⟨by rfl,rfl⟩) (by assumption) ?_
      (try simp only [Act.put,zA,zB,zC,zD,zE,zF])
      refine wpAnyH_take (i:=19) (v:=undef) rfl (by kernel_rfl) (by kernel_rfl) (by kernel_rfl) (fun _ _ _ h=>h) (Or.inr ⟨by rfl,rfl⟩) (by assumption) ?_
      (try simp only [Act.put,zA,zB,zC,zD,zE,zF])
      refine tkH (i:=20) (v:=?_) rfl ?_ ?_;rotate_left;focus ((intro w hSw;(try dsimp only at hSw);go_simp);try with_reducible rfl)
      (try simp only [Act.put,zA,zB,zC,zD,zE,zF])
      refine tkH (i:=21) (v:=?_) rfl ?_ ?_;rotate_left;focus ((intro w hSw;(try dsimp only at hSw);go_simp);try with_reducible rfl)
      (try simp only [Act.put,zA,zB,zC,zD,zE,zF])
      refine wpAnyH_take (i:=22) (v:=undef) rfl (by kernel_rfl) (by kernel_rfl) (by kernel_rfl) (fun _ _ _ h=>h) (Or.inr ⟨by rfl,rfl⟩) (by assumption) ?_
      (try simp only [Act.put,zA,zB,zC,zD,zE,zF])
      refine wpAnyH_take (i:=23) (v:=undef) rfl (by kernel_rfl) (by kernel_rfl) (by kernel_rfl) (fun _ _ _ h=>h) (Or.inr ⟨by rfl,rfl⟩) (by assumption) ?_
      (try simp only [Act.put,zA,zB,zC,zD,zE,zF])
      refine tkH (i:=24) (v:=?_) rfl ?_ ?_;rotate_left;focus ((intro w hSw;(try dsimp only at hSw);go_simp);try with_reducible rfl)
      (try simp only [Act.put,zA,zB,zC,zD,zE,zF])
      refine tkH (i:=25) (v:=?_) rfl ?_ ?_;rotate_left;focus ((intro w hSw;(try dsimp only at hSw);go_simp);try with_reducible rfl)
      (try simp only [Act.put,zA,zB,zC,zD,zE,zF])
      refine wpAnyH_ready (rs:=[26]) (by kernel_rfl) (by simp) ?_
      refine AllReadyH.cons rfl (fun K hK=>?_) AllReadyH.nil
      go_simp
      have hal:=hbz.alloc hbz.size (.cells #[.int .i64 (e : Nat),.bool true] 40)
      refine hK.out _ _ (HST.out _ hal) (fun hHeld=>?_)
      clear hK K
      (try simp only [Act.put,zA,zB,zC,zD,zE,zF])
      refine wpAnyH_ready (rs:=[27]) (by kernel_rfl) (by simp) ?_
      refine AllReadyH.cons rfl (fun K hK=>?_) AllReadyH.nil
      refine step_app rfl (.tmp 74) (.tmp 100) _ rfl w5.heap.size 40 i0 _ 2 16 Tryz.underlying50 hi0 hz0 hz1 hz2 rfl (by omega) A n c (O.map encC) rfl (ho6d.alloc _) _ 1 1 [encC (e,true)] rfl rfl (Rd.newAt (by simp) rfl) (encC_ok [(e,true)]) (by unfold maxLen;omega) (by omega) (by simp;omega) ?_
      intro A3 c3 w7 ho7 hg7 hA7
      have hb7:=below_app hal hg7 (by simp;omega) (fun a ha=>by have:=(ho6d.lt a ha).1;omega)
      refine hK.out _ _ (HST.out _ hb7) (fun hHeld=>?_)
      clear hK K
      (try simp only [Act.put,zA,zB,zC,zD,zE,zF])
      refine tkH (i:=28) (v:=?_) rfl ?_ ?_;rotate_left;focus ((intro w hSw;(try dsimp only at hSw);go_simp);try with_reducible rfl)
      (try simp only [Act.put,zA,zB,zC,zD,zE,zF])
      refine wpAnyH_done (by kernel_rfl) ?_ _
      go_wp2
      go_roundw
      case rel=>exact ⟨k+1,a',n+1,c3,A3,O++[(e,true)],rfl,rfl,by go_num,by omega,by omega,by rw [List.map_append];exact ho7,by omega,HO',HA2,hb7⟩
      case measure=>simp [intOf];omega
     have tn : ((e : Int) == (s.size : Int)) = false:=beq_eq_false_iff_ne.2 (by omega)
     have te2 : (e == s.size) = false:=beq_eq_false_iff_ne.2 he
     clear he
     refine tkH (i:=12) (v:=?_) rfl ?_ ?_;rotate_left;focus ((intro w hSw;(try dsimp only at hSw);go_simp);try with_reducible rfl)
     (try simp only [Act.put,zA,zB,zC,zD,zE,zF])
     refine tkH (i:=13) (v:=?_) rfl ?_ ?_;rotate_left;focus ((intro w hSw;(try dsimp only at hSw);go_simp);try with_reducible rfl)
     (try simp only [Act.put,zA,zB,zC,zD,zE,zF])
     refine tkH (i:=14) (v:=?_) rfl ?_ ?_;rotate_left;focus ((intro w hSw;(try dsimp only at hSw);go_simp);try with_reducible rfl)
     (try simp only [Act.put,zA,zB,zC,zD,zE,zF])
     by_cases h1 : (bytesOf nm).toList = [66,107]
     ·have HO' : Hid (O++[(e,true)] = chD s (k+1)):=Lib.hid (by rw [HS3.out,show (e == s.size || (nm == [66,107] || nm == [76,102] || nm == [67,114])) = true from by rw [← HE.out,h1];simp])
      clear te2 HS3 HE
      refine tkH (i:=15) (v:=?_) rfl ?_ ?_;rotate_left;focus ((intro w hSw;(try dsimp only at hSw);go_simp);try with_reducible rfl)
      (try simp only [Act.put,zA,zB,zC,zD,zE,zF])
      refine tkH (i:=16) (v:=?_) rfl ?_ ?_;rotate_left;focus ((intro w hSw;(try dsimp only at hSw);go_simp);try with_reducible rfl)
      (try simp only [Act.put,zA,zB,zC,zD,zE,zF])
      refine tkH (i:=17) (v:=?_) rfl ?_ ?_;rotate_left;focus ((intro w hSw;(try dsimp only at hSw);go_simp);try with_reducible rfl)
      (try simp only [Act.put,zA,zB,zC,zD,zE,zF])
      refine wpAnyH_take (i:=18) (v:=undef) rfl (by kernel_rfl) (by kernel_rfl) (by kernel_rfl) (fun _ _ _ h=>h) (Or.inr ⟨by rfl,rfl⟩) (by assumption) ?_
      (try simp only [Act.put,zA,zB,zC,zD,zE,zF])
      refine wpAnyH_take (i:=19) (v:=undef) rfl (by kernel_rfl) (by kernel_rfl) (by kernel_rfl) (fun _ _ _ h=>h) (Or.inr ⟨by rfl,rfl⟩) (by assumption) ?_
      (try simp only [Act.put,zA,zB,zC,zD,zE,zF])
      refine tkH (i:=20) (v:=?_) rfl ?_ ?_;rotate_left;focus ((intro w hSw;(try dsimp only at hSw);go_simp);try with_reducible rfl)
      (try simp only [Act.put,zA,zB,zC,zD,zE,zF])
      refine tkH (i:=21) (v:=?_) rfl ?_ ?_;rotate_left;focus ((intro w hSw;(try dsimp only at hSw);go_simp);try with_reducible rfl)
      (try simp only [Act.put,zA,zB,zC,zD,zE,zF])
      refine wpAnyH_take (i:=22) (v:=undef) rfl (by kernel_rfl) (by kernel_rfl) (by kernel_rfl) (fun _ _ _ h=>h) (Or.inr ⟨by rfl,rfl⟩) (by assumption) ?_
      (try simp only [Act.put,zA,zB,zC,zD,zE,zF])
      refine wpAnyH_take (i:=23) (v:=undef) rfl (by kernel_rfl) (by kernel_rfl) (by kernel_rfl) (fun _ _ _ h=>h) (Or.inr ⟨by rfl,rfl⟩) (by assumption) ?_
      (try simp only [Act.put,zA,zB,zC,zD,zE,zF])
      refine tkH (i:=24) (v:=?_) rfl ?_ ?_;rotate_left;focus ((intro w hSw;(try dsimp only at hSw);go_simp);try with_reducible rfl)
      (try simp only [Act.put,zA,zB,zC,zD,zE,zF])
      refine tkH (i:=25) (v:=?_) rfl ?_ ?_;rotate_left;focus ((intro w hSw;(try dsimp only at hSw);go_simp);try with_reducible rfl)
      (try simp only [Act.put,zA,zB,zC,zD,zE,zF])
      refine wpAnyH_ready (rs:=[26]) (by kernel_rfl) (by simp) ?_
      refine AllReadyH.cons rfl (fun K hK=>?_) AllReadyH.nil
      go_simp
      have hal:=hbz.alloc hbz.size (.cells #[.int .i64 (e : Nat),.bool true] 40)
      refine hK.out _ _ (HST.out _ hal) (fun hHeld=>?_)
      clear hK K
      (try simp only [Act.put,zA,zB,zC,zD,zE,zF])
      refine wpAnyH_ready (rs:=[27]) (by kernel_rfl) (by simp) ?_
      refine AllReadyH.cons rfl (fun K hK=>?_) AllReadyH.nil
      refine step_app rfl (.tmp 74) (.tmp 100) _ rfl w5.heap.size 40 i0 _ 2 16 Tryz.underlying50 hi0 hz0 hz1 hz2 rfl (by omega) A n c (O.map encC) rfl (ho6d.alloc _) _ 1 1 [encC (e,true)] rfl rfl (Rd.newAt (by simp) rfl) (encC_ok [(e,true)]) (by unfold maxLen;omega) (by omega) (by simp;omega) ?_
      intro A3 c3 w7 ho7 hg7 hA7
      have hb7:=below_app hal hg7 (by simp;omega) (fun a ha=>by have:=(ho6d.lt a ha).1;omega)
      refine hK.out _ _ (HST.out _ hb7) (fun hHeld=>?_)
      clear hK K
      (try simp only [Act.put,zA,zB,zC,zD,zE,zF])
      refine tkH (i:=28) (v:=?_) rfl ?_ ?_;rotate_left;focus ((intro w hSw;(try dsimp only at hSw);go_simp);try with_reducible rfl)
      (try simp only [Act.put,zA,zB,zC,zD,zE,zF])
      refine wpAnyH_done (by kernel_rfl) ?_ _
      go_wp2
      go_roundw
      case rel=>exact ⟨k+1,a',n+1,c3,A3,O++[(e,true)],rfl,rfl,by go_num,by omega,by omega,by rw [List.map_append];exact ho7,by omega,HO',HA2,hb7⟩
      case measure=>simp [intOf];omega
     have k1 : ((bytesOf nm).toList == [66,107]) = false:=beq_eq_false_iff_ne.2 h1
     refine tkH (i:=15) (v:=?_) rfl ?_ ?_;rotate_left;focus ((intro w hSw;(try dsimp only at hSw);go_simp);try with_reducible rfl)
     (try simp only [Act.put,zA,zB,zC,zD,zE,zF])
     refine tkH (i:=16) (v:=?_) rfl ?_ ?_;rotate_left;focus ((intro w hSw;(try dsimp only at hSw);go_simp);try with_reducible rfl)
     (try simp only [Act.put,zA,zB,zC,zD,zE,zF])
     refine tkH (i:=17) (v:=?_) rfl ?_ ?_;rotate_left;focus ((intro w hSw;(try dsimp only at hSw);go_simp);try with_reducible rfl)
     (try simp only [Act.put,zA,zB,zC,zD,zE,zF])
     refine tkH (i:=18) (v:=?_) rfl ?_ ?_;rotate_left;focus ((intro w hSw;(try dsimp only at hSw);go_simp);try with_reducible rfl)
     (try simp only [Act.put,zA,zB,zC,zD,zE,zF])
     by_cases h2 : (bytesOf nm).toList = [76,102]
     ·have HO' : Hid (O++[(e,true)] = chD s (k+1)):=Lib.hid (by rw [HS3.out,show (e == s.size || (nm == [66,107] || nm == [76,102] || nm == [67,114])) = true from by rw [← HE.out,h2];simp])
      clear te2 HS3 HE
      refine tkH (i:=19) (v:=?_) rfl ?_ ?_;rotate_left;focus ((intro w hSw;(try dsimp only at hSw);go_simp);try with_reducible rfl)
      (try simp only [Act.put,zA,zB,zC,zD,zE,zF])
      refine tkH (i:=20) (v:=?_) rfl ?_ ?_;rotate_left;focus ((intro w hSw;(try dsimp only at hSw);go_simp);try with_reducible rfl)
      (try simp only [Act.put,zA,zB,zC,zD,zE,zF])
      refine tkH (i:=21) (v:=?_) rfl ?_ ?_;rotate_left;focus ((intro w hSw;(try dsimp only at hSw);go_simp);try with_reducible rfl)
      (try simp only [Act.put,zA,zB,zC,zD,zE,zF])
      refine wpAnyH_take (i:=22) (v:=undef) rfl (by kernel_rfl) (by kernel_rfl) (by kernel_rfl) (fun _ _ _ h=>h) (Or.inr ⟨by rfl,rfl⟩) (by assumption) ?_
      (try simp only [Act.put,zA,zB,zC,zD,zE,zF])
      refine wpAnyH_take (i:=23) (v:=undef) rfl (by kernel_rfl) (by kernel_rfl) (by kernel_rfl) (fun _ _ _ h=>h) (Or.inr ⟨by rfl,rfl⟩) (by assumption) ?_
      (try simp only [Act.put,zA,zB,zC,zD,zE,zF])
      refine tkH (i:=24) (v:=?_) rfl ?_ ?_;rotate_left;focus ((intro w hSw;(try dsimp only at hSw);go_simp);try with_reducible rfl)
      (try simp only [Act.put,zA,zB,zC,zD,zE,zF])
      refine tkH (i:=25) (v:=?_) rfl ?_ ?_;rotate_left;focus ((intro w hSw;(try dsimp only at hSw);go_simp);try with_reducible rfl)
      (try simp only [Act.put,zA,zB,zC,zD,zE,zF])
      refine wpAnyH_ready (rs:=[26]) (by kernel_rfl) (by simp) ?_
      refine AllReadyH.cons rfl (fun K hK=>?_) AllReadyH.nil
      go_simp
      have hal:=hbz.alloc hbz.size (.cells #[.int .i64 (e : Nat),.bool true] 40)
      refine hK.out _ _ (HST.out _ hal) (fun hHeld=>?_)
      clear hK K
      (try simp only [Act.put,zA,zB,zC,zD,zE,zF])
      refine wpAnyH_ready (rs:=[27]) (by kernel_rfl) (by simp) ?_
      refine AllReadyH.cons rfl (fun K hK=>?_) AllReadyH.nil
      refine step_app rfl (.tmp 74) (.tmp 100) _ rfl w5.heap.size 40 i0 _ 2 16 Tryz.underlying50 hi0 hz0 hz1 hz2 rfl (by omega) A n c (O.map encC) rfl (ho6d.alloc _) _ 1 1 [encC (e,true)] rfl rfl (Rd.newAt (by simp) rfl) (encC_ok [(e,true)]) (by unfold maxLen;omega) (by omega) (by simp;omega) ?_
      intro A3 c3 w7 ho7 hg7 hA7
      have hb7:=below_app hal hg7 (by simp;omega) (fun a ha=>by have:=(ho6d.lt a ha).1;omega)
      refine hK.out _ _ (HST.out _ hb7) (fun hHeld=>?_)
      clear hK K
      (try simp only [Act.put,zA,zB,zC,zD,zE,zF])
      refine tkH (i:=28) (v:=?_) rfl ?_ ?_;rotate_left;focus ((intro w hSw;(try dsimp only at hSw);go_simp);try with_reducible rfl)
      (try simp only [Act.put,zA,zB,zC,zD,zE,zF])
      refine wpAnyH_done (by kernel_rfl) ?_ _
      go_wp2
      go_roundw
      case rel=>exact ⟨k+1,a',n+1,c3,A3,O++[(e,true)],rfl,rfl,by go_num,by omega,by omega,by rw [List.map_append];exact ho7,by omega,HO',HA2,hb7⟩
      case measure=>simp [intOf];omega
     have k2 : ((bytesOf nm).toList == [76,102]) = false:=beq_eq_false_iff_ne.2 h2
     refine tkH (i:=19) (v:=?_) rfl ?_ ?_;rotate_left;focus ((intro w hSw;(try dsimp only at hSw);go_simp);try with_reducible rfl)
     (try simp only [Act.put,zA,zB,zC,zD,zE,zF])
     refine tkH (i:=20) (v:=?_) rfl ?_ ?_;rotate_left;focus ((intro w hSw;(try dsimp only at hSw);go_simp);try with_reducible rfl)
     (try simp only [Act.put,zA,zB,zC,zD,zE,zF])
     refine tkH (i:=21) (v:=?_) rfl ?_ ?_;rotate_left;focus ((intro w hSw;(try dsimp only at hSw);go_simp);try with_reducible rfl)
     (try simp only [Act.put,zA,zB,zC,zD,zE,zF])
     refine tkH (i:=22) (v:=?_) rfl ?_ ?_;rotate_left;focus ((intro w hSw;(try dsimp only at hSw);go_simp);try with_reducible rfl)
     (try simp only [Act.put,zA,zB,zC,zD,zE,zF])
     by_cases h3 : (bytesOf nm).toList = [67,114]
     ·have HO' : Hid (O++[(e,true)] = chD s (k+1)):=Lib.hid (by rw [HS3.out,show (e == s.size || (nm == [66,107] || nm == [76,102] || nm == [67,114])) = true from by rw [← HE.out,h3];simp])
      clear te2 HS3 HE
      refine tkH (i:=23) (v:=?_) rfl ?_ ?_;rotate_left;focus ((intro w hSw;(try dsimp only at hSw);go_simp);try with_reducible rfl)
      (try simp only [Act.put,zA,zB,zC,zD,zE,zF])
      refine tkH (i:=24) (v:=?_) rfl ?_ ?_;rotate_left;focus ((intro w hSw;(try dsimp only at hSw);go_simp);try with_reducible rfl)
      (try simp only [Act.put,zA,zB,zC,zD,zE,zF])
      refine tkH (i:=25) (v:=?_) rfl ?_ ?_;rotate_left;focus ((intro w hSw;(try dsimp only at hSw);go_simp);try with_reducible rfl)
      (try simp only [Act.put,zA,zB,zC,zD,zE,zF])
      refine wpAnyH_ready (rs:=[26]) (by kernel_rfl) (by simp) ?_
      refine AllReadyH.cons rfl (fun K hK=>?_) AllReadyH.nil
      go_simp
      have hal:=hbz.alloc hbz.size (.cells #[.int .i64 (e : Nat),.bool true] 40)
      refine hK.out _ _ (HST.out _ hal) (fun hHeld=>?_)
      clear hK K
      (try simp only [Act.put,zA,zB,zC,zD,zE,zF])
      refine wpAnyH_ready (rs:=[27]) (by kernel_rfl) (by simp) ?_
      refine AllReadyH.cons rfl (fun K hK=>?_) AllReadyH.nil
      refine step_app rfl (.tmp 74) (.tmp 100) _ rfl w5.heap.size 40 i0 _ 2 16 Tryz.underlying50 hi0 hz0 hz1 hz2 rfl (by omega) A n c (O.map encC) rfl (ho6d.alloc _) _ 1 1 [encC (e,true)] rfl rfl (Rd.newAt (by simp) rfl) (encC_ok [(e,true)]) (by unfold maxLen;omega) (by omega) (by simp;omega) ?_
      intro A3 c3 w7 ho7 hg7 hA7
      have hb7:=below_app hal hg7 (by simp;omega) (fun a ha=>by have:=(ho6d.lt a ha).1;omega)
      refine hK.out _ _ (HST.out _ hb7) (fun hHeld=>?_)
      clear hK K
      (try simp only [Act.put,zA,zB,zC,zD,zE,zF])
      refine tkH (i:=28) (v:=?_) rfl ?_ ?_;rotate_left;focus ((intro w hSw;(try dsimp only at hSw);go_simp);try with_reducible rfl)
      (try simp only [Act.put,zA,zB,zC,zD,zE,zF])
      refine wpAnyH_done (by kernel_rfl) ?_ _
      go_wp2
      go_roundw
      case rel=>exact ⟨k+1,a',n+1,c3,A3,O++[(e,true)],rfl,rfl,by go_num,by omega,by omega,by rw [List.map_append];exact ho7,by omega,HO',HA2,hb7⟩
      case measure=>simp [intOf];omega
     have k3 : ((bytesOf nm).toList == [67,114]) = false:=beq_eq_false_iff_ne.2 h3
     have HO' : Hid (O++[(e,false)] = chD s (k+1)):=Lib.hid (by rw [HS3.out,show (e == s.size || (nm == [66,107] || nm == [76,102] || nm == [67,114])) = false from by rw [← HE.out,te2];simp [h1,h2,h3]])
     clear te2 HS3 HE
     refine tkH (i:=23) (v:=?_) rfl ?_ ?_;rotate_left;focus ((intro w hSw;(try dsimp only at hSw);go_simp);try with_reducible rfl)
     (try simp only [Act.put,zA,zB,zC,zD,zE,zF])
     refine tkH (i:=24) (v:=?_) rfl ?_ ?_;rotate_left;focus ((intro w hSw;(try dsimp only at hSw);go_simp);try with_reducible rfl)
     (try simp only [Act.put,zA,zB,zC,zD,zE,zF])
     refine tkH (i:=25) (v:=?_) rfl ?_ ?_;rotate_left;focus ((intro w hSw;(try dsimp only at hSw);go_simp);try with_reducible rfl)
     (try simp only [Act.put,zA,zB,zC,zD,zE,zF])
     refine wpAnyH_ready (rs:=[26]) (by kernel_rfl) (by simp) ?_
     refine AllReadyH.cons rfl (fun K hK=>?_) AllReadyH.nil
     go_simp
     have hal:=hbz.alloc hbz.size (.cells #[.int .i64 (e : Nat),.bool false] 40)
     refine hK.out _ _ (HST.out _ hal) (fun hHeld=>?_)
     clear hK K
     (try simp only [Act.put,zA,zB,zC,zD,zE,zF])
     refine wpAnyH_ready (rs:=[27]) (by kernel_rfl) (by simp) ?_
     refine AllReadyH.cons rfl (fun K hK=>?_) AllReadyH.nil
     refine step_app rfl (.tmp 74) (.tmp 100) _ rfl w5.heap.size 40 i0 _ 2 16 Tryz.underlying50 hi0 hz0 hz1 hz2 rfl (by omega) A n c (O.map encC) rfl (ho6d.alloc _) _ 1 1 [encC (e,false)] rfl rfl (Rd.newAt (by simp) rfl) (encC_ok [(e,false)]) (by unfold maxLen;omega) (by omega) (by simp;omega) ?_
     intro A3 c3 w7 ho7 hg7 hA7
     have hb7:=below_app hal hg7 (by simp;omega) (fun a ha=>by have:=(ho6d.lt a ha).1;omega)
     refine hK.out _ _ (HST.out _ hb7) (fun hHeld=>?_)
     clear hK K
     (try simp only [Act.put,zA,zB,zC,zD,zE,zF])
     refine tkH (i:=28) (v:=?_) rfl ?_ ?_;rotate_left;focus ((intro w hSw;(try dsimp only at hSw);go_simp);try with_reducible rfl)
     (try simp only [Act.put,zA,zB,zC,zD,zE,zF])
     refine wpAnyH_done (by kernel_rfl) ?_ _
     go_wp2
     go_roundw
     case rel=>exact ⟨k+1,a',n+1,c3,A3,O++[(e,false)],rfl,rfl,by go_num,by omega,by omega,by rw [List.map_append];exact ho7,by omega,HO',HA2,hb7⟩
     case measure=>simp [intOf];omega
    ·have HO' : Hid (O = chD s (k+1)):=Lib.hid (by rw [HS1.out,if_neg hm,List.append_nil])
     have hb':=below_drewN hb q
     have hne : B[a']? ≠ some e:=fun h=>hm (HM.out.2 h)
     clear hm HM
     by_cases hkn : a' < B.length
     ·obtain ⟨y,hy⟩ : ∃ y,B[a']? = some y:=⟨_,List.getElem?_eq_getElem hkn⟩
      have tn : ((y : Int) == (e : Int)) = false:=beq_eq_false_iff_ne.2 (fun h=>hne (by rw [hy];congr 1;omega))
      have tn2 : ¬ y = e:=fun h=>hne (by rw [hy,h])
      obtain ⟨bo,oo,rfl,hco⟩:=rdBo.atNa hy
      clear hne hy
      go_wp2_with fail
      go_quiet (fail)
      go_wp2
      go_roundw
      case rel=>exact ⟨k+1,a',n,c,A,O,rfl,rfl,by go_num,by omega,by omega,ho,by omega,HO',HA2,below_drewN hb _⟩
      case measure=>simp [intOf];omega
     ·clear hne
      go_wp2_with fail
      go_quiet (fail)
      go_wp2
      go_roundw
      case rel=>exact ⟨k+1,a',n,c,A,O,rfl,rfl,by go_num,by omega,by omega,ho,by omega,HO',HA2,below_drewN hb _⟩
      case measure=>simp [intOf];omega
  ·obtain rfl : k = XR.length:=by omega
   have HV : Hid (O = lChances gL s):=Lib.hid (by rw [HO.out,HE.out])
   go_wp2
   go_ret
   exact ⟨A,n,c,rfl,by rw [← HV.out];exact ho.more hsz5,below_step hb15 hb hsz5⟩
end
end Go.Proofs.YtglmcknlnoknoaaGreatDoor
