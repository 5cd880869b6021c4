/- -/
import Derived.Test.YtlfpdpbbkjnapaaGreatDoorYPlacesTellsPlcE
import Derived.Test.YtlfpdpbbkjnapaaGreatDoorYPlacesTells5a
namespace Go.Proofs.YtlfpdpbbkjnapaaGreatDoor
set_option maxRecDepth 100000
set_option maxHeartbeats 40000000
section
open Go.RowKit
theorem wf_small {b : Int} (h : -1≤b∧b≤4) : (Lit.int .i64 b).wf = true:=by
 rcases (by omega : b = -1∨b = 0∨b = 1∨b = 2∨b = 3∨b = 4) with rfl | rfl | rfl | rfl | rfl | rfl <;> decide
theorem qtells_any (x : Nat) (s : ByteArray) (at_ n r c : Int) (w : World) (h : IdxAt w x s) (hs : s.size≤50000) (hx : at_≤9223372036854775807) :
  Calls Tryz.prog 24 #[.pointer (some ⟨x,0,none⟩),.string s,.int .i64 at_,.int .i64 n,.agg #[.int .i64 r,.int .i64 c]] w fun e w'=>e = .returned (.bool true)∧Below w.heap.size w w':=by
 have hb0 : Below w.heap.size w (w.alloc (.cells #[.int .i64 r,.int .i64 c] 32)):=(Below.refl _ _).alloc (Nat.le_refl _) _
 have b9:=Blk.new w 32 #[.int .i64 r,.int .i64 c]
 have HT:=Lib.hid (fun W (h : IdxAt W x s)=>qText_any x s W h)
 have HO:=Lib.hid (fun W=>fOf_any s W hs)
 have HLen:=Lib.hid (fun b W (h : IdxAt W x s) (hk : (Lit.int .i64 b).wf = true)=>qLen_any x s b W h hk)
 have HBg:=Lib.hid (fun p b W (h : BookAt W p s)=>fBegins_any p s b W h)
 have HTo:=Lib.hid (fun b W (h : IdxAt W x s) (hk : (Lit.int .i64 b).wf = true)=>qTo_any x s b at_ W h hk (by omega))
 have HfT:=Lib.hid (fun p b y W (h : BookAt W p s)=>fTo_any p s b y W h (by omega))
 have HFr:=Lib.hid (fun b W (h : IdxAt W x s) (hk : (Lit.int .i64 b).wf = true)=>qFrom_any x s b n W h hk)
 have HfF:=Lib.hid (fun p b W (h : BookAt W p s)=>fFrom_any p s b n W h)
 have HCv:=Lib.hid (fun b t W (h : IdxAt W x s) (hk : (Lit.int .i64 b).wf = true) (ht : (Lit.int .i64 t).wf = true)=>qConvert_any x s b n t W h hk ht (by omega))
 have HLs:=Lib.hid (fun W (h : IdxAt W x s)=>qLinesN_any x s W h)
 have HPt:=Lib.hid (fun W (h : IdxAt W x s)=>qPoint_any x s at_ W h (by omega))
 have HfP:=Lib.hid (fun p W (h : BookAt W p s)=>fPoint_any p s at_ W h (by omega) hx)
 have HAt:=Lib.hid (fun W (h : IdxAt W x s)=>qAt_any x s r c W h)
 have HfA:=Lib.hid (fun p W (h : BookAt W p s)=>fAt_any p s r c W h (by omega))
 have HLi:=Lib.hid (fun i W (h : IdxAt W x s)=>qLine_any x s i W h)
 have hlp:=lnP_len s
 go_enter Tryz.func24,Tryz.ntmps24
 go_wp2_with fail
 generalize w.alloc (.cells #[.int .i64 r,.int .i64 c] 32) = w0 at hb0 b9 ⊢
 have hI0:=h.below hb0
 go_wp2_with fail
 refine (HT.out w0 hI0).mono ?_
 rintro e w1 ⟨rfl,rfl⟩
 go_wp2_with fail
 refine (HO.out w0).mono ?_
 rintro e w1 ⟨pk,rfl,hK1,hb1⟩
 have hI1:=hI0.below hb1
 have hB1:=below_two hb0 hb1
 have b91:=b9.below hb1
 clear h hb0 hI0 hb1 b9
 go_wp2_with fail
 go_loopw [12] (fun v wr=>∃ b : Int,v = .int .i64 b∧-1≤b∧b≤5∧Below w1.heap.size w1 wr) (fun v _=>(5 - intOf v).toNat)
 case atStart=>exact ⟨-1,rfl,by omega,by omega,Below.refl _ _⟩
 case round =>
  obtain ⟨b,rfl,hb5,hb6,hbr⟩:=hrel
  have hIr:=hI1.below hbr
  have hKr:=hK1.below hbr
  by_cases hlt : b≤4
  ·have hk:=wf_small ⟨hb5,hlt⟩
   have Hk:=Lib.hid hk
   have ewb : IntKind.i64.wrap (b+1) = b+1:=IntWalk.i64_in _ (by omega)
   clear hk
   go_wp2_with fail
   refine (HLen.out b wr hIr Hk.out).mono ?_
   rintro e w2 ⟨rfl,rfl⟩
   go_wp2_with fail
   refine (HBg.out pk b wr hKr).mono ?_
   rintro e w2 ⟨B,d,rfl,_,rfl⟩
   go_wp2_with fail
   refine (HTo.out b wr hIr Hk.out).mono ?_
   rintro e w2 ⟨rfl,hb2⟩
   have hbr2:=below_step hbr hb2 hbr.size
   go_wp2_with fail
   refine (HfT.out pk b at_ w2 (hKr.below hb2)).mono ?_
   rintro e w3 ⟨rfl,rfl⟩
   go_wp2_with fail
   refine (HFr.out b w2 (hIr.below hb2) Hk.out).mono ?_
   rintro e w3 ⟨rfl,rfl⟩
   go_wp2_with fail
   refine (HfF.out pk b w2 (hKr.below hb2)).mono ?_
   rintro e w3 ⟨rfl,hb3⟩
   have hbr3:=below_step hbr2 hb3 hbr2.size
   have hI3:=hI1.below hbr3
   have hK3:=hK1.below hbr3
   clear hIr hKr hb2 hbr2 hb3 hbr
   go_wp2_with fail
   go_loopw [13] (fun v wq=>∃ t : Int,v = .int .i64 t∧-1≤t∧t≤5∧Below w3.heap.size w3 wq) (fun v _=>(5 - intOf v).toNat)
   case atStart=>exact ⟨-1,rfl,by omega,by omega,Below.refl _ _⟩
   case round =>
    obtain ⟨t,rfl,ht5,ht6,hbq⟩:=hrel
    have hIq:=hI3.below hbq
    have hKq:=hK3.below hbq
    by_cases htl : t≤4
    ·have Hkt:=Lib.hid (wf_small ⟨ht5,htl⟩)
     have ewt : IntKind.i64.wrap (t+1) = t+1:=IntWalk.i64_in _ (by omega)
     go_wp2_with fail
     refine (HCv.out b t _ hIq Hk.out Hkt.out).mono ?_
     rintro e w4 ⟨rfl,hb4⟩
     have hbq4:=below_step hbq hb4 hbq.size
     go_wp2_with fail
     refine (HfF.out pk b w4 (hKq.below hb4)).mono ?_
     rintro e w5 ⟨rfl,hb5'⟩
     have hbq5:=below_step hbq4 hb5' hbq4.size
     go_wp2_with fail
     refine (HfT.out pk t _ w5 (hK3.below hbq5)).mono ?_
     rintro e w6 ⟨rfl,rfl⟩
     go_wp2_with fail
     go_roundw
     case rel=>exact ⟨t+1,rfl,by omega,by omega,hbq5⟩
     case measure=>simp [intOf];omega
    ·have hbw:=below_step hbr3 hbq hbr3.size
     go_wp2_with fail
     go_roundw
     case rel=>exact ⟨b+1,rfl,by omega,by omega,hbw⟩
     case measure=>simp [intOf];omega
  ·have hB0:=below_step hB1 hbr hB1.size
   have b92:=b91.below hbr
   have c0:=b92.cell 0
   have c1:=b92.cell 1
   have hKs:=hKr
   obtain ⟨A4,R4,G4,c4,c5,c6,hBk,_,hRd,_⟩:=hKs
   have k2:=hBk.cell 2
   simp only [zG,zH,zI] at c0 c1 k2
   have Hbb:=Lib.hid hb5
   clear hb5 hb6
   go_wp2_with fail
   clear k2 hBk
   go_region_held3 (fun U=>(U.cell? ⟨w.heap.size,0,none⟩ = some (.int .i64 r)∧U.cell? ⟨w.heap.size,1,none⟩ = some (.int .i64 c))∧Below wr.heap.size wr U)
    (first | exact ⟨⟨kd0,kd1⟩,Bd⟩ | exact ⟨⟨kc0,kc1⟩,Bc⟩ | exact ⟨⟨kb0,kb1⟩,Bb⟩ | exact ⟨⟨ka0,ka1⟩,Ba⟩ | exact ⟨⟨c0,c1⟩,Below.refl _ _⟩ | exact ⟨⟨c0,c1⟩,(Below.refl _ _).drew⟩)
    (first
     | (go_at_call 18;go_split_ands;refine (HLs.out _ (hIr.below (by assumption))).mono ?_;rintro e wz ⟨rfl,hz⟩;subst hz)
     | (go_at_call 21;go_split_ands;refine (HPt.out _ (hIr.below (by assumption))).mono ?_;rintro e wa ⟨rfl,hba⟩;have Ba:=below_two (by assumption) hba;have ka0:=cell_keep c0 Ba;have ka1:=cell_keep c1 Ba)
     | (go_at_call 61;go_split_ands;refine (HfP.out pk _ (hKr.below (by assumption))).mono ?_;rintro e wb ⟨rfl,hbb⟩;have Bb:=below_two (by assumption) hbb;have kb0:=cell_keep c0 Bb;have kb1:=cell_keep c1 Bb)
     | (go_at_call 20;go_split_ands;refine (HAt.out _ (hIr.below (by assumption))).mono ?_;rintro e wc ⟨rfl,hbc⟩;have Bc:=below_two (by assumption) hbc;have kc0:=cell_keep c0 Bc;have kc1:=cell_keep c1 Bc)
     | (go_at_call 62;go_split_ands;refine (HfA.out pk _ (hKr.below (by assumption))).mono ?_;rintro e wd ⟨rfl,hbd⟩;have Bd:=below_two (by assumption) hbd;have kd0:=cell_keep c0 Bd;have kd1:=cell_keep c1 Bd))
   have hIz:=hIr.below Bd
   have hBz:=below_step hB0 Bd hB0.size
   have hRz:=hRd.below Bd
   clear Ba Bb Bc Bd ka0 ka1 kb0 kb1 kc0 kc1 kd0 kd1 c0 c1 hIr hKr hbr hRd hB0 hI1 hK1 hB1
   obtain ⟨N,hN⟩ : ∃ N,(lnP s).length = N:=⟨_,rfl⟩
   have HN:=Lib.hid hN
   rw [hN] at hlp ⊢
   clear hN
   go_wp2_with fail
   go_loopw [15] (fun v wq=>∃ i : Int,v = .int .i64 i∧-1≤i∧i≤(N : Int)+1∧Below wd.heap.size wd wq) (fun v _=>((N : Int)+1 - intOf v).toNat)
   case atStart=>exact ⟨-1,rfl,by omega,by omega,Below.refl _ _⟩
   case round =>
    obtain ⟨i,rfl,hi1,hi2,hbq⟩:=hrel
    have hBq:=below_step hBz hbq hBz.size
    by_cases hle : i≤(N : Int)
    ·have ewi : IntKind.i64.wrap (i+1) = i+1:=IntWalk.i64_in _ (by omega)
     have HQ:=Lib.hid (HLi.out i _ (hIz.below hbq))
     obtain ⟨⟨a1,b1,z1⟩,HA⟩ : ∃ q,Hid (lnAt s i = q):=⟨_,Lib.hid rfl⟩
     rw [HA.out] at HQ
     simp only at HQ
     by_cases hin : 0≤i∧i < (N : Int)
     ·obtain ⟨j,rfl⟩ : ∃ j : Nat,i = j:=⟨i.toNat,by omega⟩
      obtain ⟨hin1,hin2⟩:=hin
      have hjN : j < N:=by omega
      obtain ⟨⟨a,b2,z⟩,hx2⟩ : ∃ y,(lnP s)[j]? = some y:=⟨_,List.getElem?_eq_getElem (by rw [HN.out];exact hjN)⟩
      have hq : lnAt s (j : Int) = (a,b2,z):=by
       unfold lnAt
       rw [if_neg (by rw [HN.out];omega),Int.toNat_natCast]
       exact (line_in hx2).1
      rw [HA.out] at hq
      injection hq with q1 q2
      injection q2 with q2 q3
      subst q1 q2 q3
      obtain ⟨gR,oR,rfl,hc⟩:=hRz (by intro e;rw [List.map_eq_nil_iff] at e;rw [e] at hx2;simp at hx2)
      have y0:=cell_keep (hc j 0 (encLn3 (a1,b1,z1)) (.int .i64 (a1 : Nat)) (by rw [List.getElem?_map,hx2];rfl) rfl) hbq
      have y1:=cell_keep (hc j 1 (encLn3 (a1,b1,z1)) (.int .i64 (b1 : Nat)) (by rw [List.getElem?_map,hx2];rfl) rfl) hbq
      have y2:=cell_keep (hc j 2 (encLn3 (a1,b1,z1)) (.int .i64 (z1 : Nat)) (by rw [List.getElem?_map,hx2];rfl) rfl) hbq
      simp only [Nat.add_zero] at y0
      have Hge:=Lib.hid (show (j : Int) ≥ 0 by omega)
      clear hc hx2
      go_wp2_with fail
      refine HQ.out.mono ?_
      rintro e w5 ⟨rfl,hb5⟩
      have hbq5:=below_step hbq hb5 hbq.size
      have Bl:=Blk.new w5 52 #[.int .i64 0,.int .i64 0,.int .i64 0]
      have hba : Below w5.heap.size w5 (w5.alloc (.cells #[.int .i64 0,.int .i64 0,.int .i64 0] 52)):=(Below.refl _ _).alloc (Nat.le_refl _) _
      have x0:=cell_keep (cell_keep y0 hb5) hba
      have x1:=cell_keep (cell_keep y1 hb5) hba
      have x2:=cell_keep (cell_keep y2 hb5) hba
      clear y0 y1 y2
      go_upto_region 22 with fail
      have hbq6:=below_step hbq5 hba hbq5.size
      have hw5:=hbq5.size
      generalize (w5.alloc (.cells #[.int .i64 0,.int .i64 0,.int .i64 0] 52)) = w6 at Bl hbq6 x0 x1 x2 ⊢
      generalize w5.heap.size = gl at Bl hw5 ⊢
      have l0:=Bl.cell 0
      have l1:=Bl.cell 1
      have l2:=Bl.cell 2
      have f0:=Bl.frozen 0
      have f1:=Bl.frozen 1
      have f2:=Bl.frozen 2
      simp only [zG,zH,zI] at l0 l1 l2
      have hge:=Hge.out
      clear hba hbq5 hb5
      go_wp2_with fail
      go_roundw
      case rel=>exact ⟨(j : Int)+1,rfl,by omega,by omega,((hbq6.setCell (p:=⟨gl,0,none⟩) hw5 _).setCell (p:=⟨gl,1,none⟩) hw5 _).setCell (p:=⟨gl,2,none⟩) hw5 _⟩
      case measure=>simp [intOf];omega
     ·have hq : lnAt s i = (0,0,0):=by
       unfold lnAt
       rw [if_pos (by rw [HN.out];omega)]
      rw [HA.out] at hq
      injection hq with q1 q2
      injection q2 with q2 q3
      subst q1 q2 q3
      have Hin:=Lib.hid hin
      clear hin
      by_cases hneg : i < 0
      ·have hgeI : ¬ i ≥ 0:=by omega
       go_wp2_with fail
       refine HQ.out.mono ?_
       rintro e w5 ⟨rfl,hb5⟩
       have hbq5:=below_step hbq hb5 hbq.size
       have Bl:=Blk.new w5 52 #[.int .i64 0,.int .i64 0,.int .i64 0]
       have hbq6:=hbq5.alloc hbq5.size (.cells #[.int .i64 0,.int .i64 0,.int .i64 0] 52)
       go_upto_region 22 with fail
       generalize (w5.alloc (.cells #[.int .i64 0,.int .i64 0,.int .i64 0] 52)) = w6 at Bl hbq6 ⊢
       generalize w5.heap.size = gl at Bl ⊢
       have l0:=Bl.cell 0
       have l1:=Bl.cell 1
       have l2:=Bl.cell 2
       simp only [zG,zH,zI] at l0 l1 l2
       go_wp2_with fail
       go_roundw
       case rel=>exact ⟨i+1,rfl,by omega,by omega,hbq6⟩
       case measure=>simp [intOf];omega
      ·have hgeI : i ≥ 0:=by omega
       have hnl : ¬ i < (N : Int):=by have:=Hin.out;omega
       go_wp2_with fail
       refine HQ.out.mono ?_
       rintro e w5 ⟨rfl,hb5⟩
       have hbq5:=below_step hbq hb5 hbq.size
       have Bl:=Blk.new w5 52 #[.int .i64 0,.int .i64 0,.int .i64 0]
       have hbq6:=hbq5.alloc hbq5.size (.cells #[.int .i64 0,.int .i64 0,.int .i64 0] 52)
       go_upto_region 22 with fail
       generalize (w5.alloc (.cells #[.int .i64 0,.int .i64 0,.int .i64 0] 52)) = w6 at Bl hbq6 ⊢
       generalize w5.heap.size = gl at Bl ⊢
       have l0:=Bl.cell 0
       have l1:=Bl.cell 1
       have l2:=Bl.cell 2
       simp only [zG,zH,zI] at l0 l1 l2
       go_wp2_with fail
       go_roundw
       case rel=>exact ⟨i+1,rfl,by omega,by omega,hbq6⟩
       case measure=>simp [intOf];omega
    ·go_wp2
     go_ret
     exact ⟨rfl,hBq⟩
end
end Go.Proofs.YtlfpdpbbkjnapaaGreatDoor
