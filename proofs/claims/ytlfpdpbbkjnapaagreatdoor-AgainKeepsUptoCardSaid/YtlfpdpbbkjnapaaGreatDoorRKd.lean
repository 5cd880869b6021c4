/- -/
import Derived.Deep.RegionHeld3
import Derived.Test.YtlfpdpbbkjnapaaGreatDoorRKc
namespace Go.Proofs.YtlfpdpbbkjnapaaGreatDoor
set_option maxRecDepth 100000
set_option maxHeartbeats 40000000
section
open Go.RowKit
def wBack2 (c : List Int) (b : Int) : Int:=if b < 0 then -2 else wBack c b.toNat
theorem wBack2_bd (c : List Int) (b : Int) (hb : -1≤b) : -2≤wBack2 c b∧(wBack2 c b≤b):=by
 unfold wBack2
 split
 ·omega
 ·have:=wBack_lt c b.toNat
  omega
theorem wOf_back2 (c : List Int) (b : Int) : wOf c (wBack2 c b) = wOf c (wBack c b.toNat):=by
 unfold wBack2
 split
 ·rw [show b.toNat = 0 by omega]
  unfold wOf wBack
  rw [if_pos (.inl (by omega)),if_pos (.inl (by omega))]
 ·rfl
theorem kback2_any (A B : Option Addr) (na ca n cb : Nat) (z : Int) (c : List Int) (b : Int) (w : World) (hB : Rd w 1 B (c.map encZ)) (hl : c.length = n) (hb : -1≤b∧b≤n) (hn : n≤4000000) :
  Calls Tryz.prog 138 #[.agg #[.slice A na ca,.slice B n cb,.int .i64 z],.int .i64 b] w fun e w'=>e = .returned (.int .i64 (wBack2 c b))∧Below w.heap.size w w':=by
 rcases (by omega : b < 0∨0≤b) with h | h
 ·have HV : Hid (wBack2 c b = b - 1):=Lib.hid (by unfold wBack2;rw [if_pos h];omega)
  have hBz : Below w.heap.size w (w.alloc (.cells #[.slice A na ca,.slice B n cb,.int .i64 z] 165)):=(Below.refl _ _).alloc (Nat.le_refl _) _
  clear hB hl
  go_enter Tryz.func138,Tryz.ntmps138
  go_wp2
  go_loopw [1] (fun v wr=>∃ x : Int,v = .int .i64 x∧x < 0∧Hid (x = b - 1)∧wr = w.alloc (.cells #[.slice A na ca,.slice B n cb,.int .i64 z] 165)) (fun v _=>(intOf v+1).toNat)
  case atStart=>exact ⟨b - 1,by go_num,by omega,Lib.hid rfl,rfl⟩
  case round =>
   obtain ⟨x,rfl,hx,HX,rfl⟩:=hrel
   have hx0 : ¬ 0≤x:=by omega
   go_wp2
   go_ret
   exact ⟨by rw [HV.out,← HX.out];rfl,hBz⟩
 ·have:=kback_any A B na ca n cb z c b.toNat w hB hl (by omega) hn
  rw [show ((b.toNat : Nat) : Int) = b by omega] at this
  unfold wBack2
  rw [if_neg (by omega)]
  exact this
theorem kcut_any (A B : Option Addr) (na ca n cb : Nat) (z : Int) (c : List Int) (i : Nat) (w : World) (hB : Rd w 1 B (c.map encZ)) (hl : c.length = n) (hi : 1≤i) (hin : i < n) (hn : n≤3000000) :
  Calls Tryz.prog 116 #[.agg #[.slice A na ca,.slice B n cb,.int .i64 z],.int .i64 i] w fun e w'=>e = .returned (.bool (wCut c i))∧Below w.heap.size w w':=by
 obtain ⟨p,Hp⟩ : ∃ p,Hid (c[i - 1]? = some p):=⟨_,Lib.hid (List.getElem?_eq_getElem (by omega))⟩
 obtain ⟨q,Hq⟩ : ∃ q,Hid (c[i]? = some q):=⟨_,Lib.hid (List.getElem?_eq_getElem (by omega))⟩
 have hBz : Below w.heap.size w (w.alloc (.cells #[.slice A na ca,.slice B n cb,.int .i64 z] 165)):=(Below.refl _ _).alloc (Nat.le_refl _) _
 have hK:=Blk.new w 165 #[.slice A na ca,.slice B n cb,.int .i64 z]
 have k0:=hK.cell 0
 have k1:=hK.cell 1
 have k2:=hK.cell 2
 simp only [zG,zH,zI] at k0 k1 k2
 have hb0:=wBack_lt c i
 obtain ⟨b,Hb⟩ : ∃ b,Hid (wBack c i = b):=⟨_,Lib.hid rfl⟩
 rw [Hb.out] at hb0
 have hy0:=wBack2_bd c b hb0.2
 obtain ⟨y,Hy⟩ : ∃ y,Hid (wBack2 c b = y):=⟨_,Lib.hid rfl⟩
 rw [Hy.out] at hy0
 obtain ⟨N1,HN1⟩ : ∃ N1,Hid (wOn c i = N1):=⟨_,Lib.hid rfl⟩
 obtain ⟨R1,HR1⟩ : ∃ R1,Hid (wReg c i = R1):=⟨_,Lib.hid rfl⟩
 obtain ⟨x1,H1⟩ : ∃ x,Hid ((p == 1 && q == 2) = x):=⟨_,Lib.hid rfl⟩
 obtain ⟨x2,H2⟩ : ∃ x,Hid ((wEnd p || wEnd q) = x):=⟨_,Lib.hid rfl⟩
 obtain ⟨x3,H3⟩ : ∃ x,Hid ((p == 5 && q == 19) = x):=⟨_,Lib.hid rfl⟩
 obtain ⟨x4,H4⟩ : ∃ x,Hid ((p == 18 && q == 18) = x):=⟨_,Lib.hid rfl⟩
 obtain ⟨x5,H5⟩ : ∃ x,Hid (wHang q = x):=⟨_,Lib.hid rfl⟩
 obtain ⟨x6,H6⟩ : ∃ x,Hid (wLetters (wOf c y) (wOf c b) q N1 = x):=⟨_,Lib.hid rfl⟩
 have HW : Hid (wCut c i = if x1 then false else if x2 then true else if (x3 || x4 || x5) then false else if x6 then false else (!(q == 7) || R1 % 2 == 0)):=Lib.hid (by
  rw [← H1.out,← H2.out,← H3.out,← H4.out,← H5.out,← H6.out,← HN1.out,← HR1.out,← Hy.out,wOf_back2,← Hb.out]
  unfold wCut
  rw [getD_of Hp.out,getD_of Hq.out]
  simp only [Bool.and_eq_true,beq_iff_eq])
 have HCb : Hid (∀ W,Below w.heap.size w W→Calls Tryz.prog 138 #[.agg #[.slice A na ca,.slice B n cb,.int .i64 z],.int .i64 i] W fun e w'=>e = .returned (.int .i64 b)∧Below W.heap.size W w') :=
  Lib.hid (fun W h=>by rw [← Hb.out];exact kback_any A B na ca n cb z c i W (hB.below h) hl (by omega) (by omega))
 have HCy : Hid (∀ W,Below w.heap.size w W→Calls Tryz.prog 138 #[.agg #[.slice A na ca,.slice B n cb,.int .i64 z],.int .i64 b] W fun e w'=>e = .returned (.int .i64 y)∧Below W.heap.size W w') :=
  Lib.hid (fun W h=>by rw [← Hy.out];exact kback2_any A B na ca n cb z c b W (hB.below h) hl (by omega) (by omega))
 have HCof : Hid (∀ (k : Int) W,Below w.heap.size w W→(-10≤k∧k≤4000000)→Calls Tryz.prog 140 #[.agg #[.slice A na ca,.slice B n cb,.int .i64 z],.int .i64 k] W fun e w'=>e = .returned (.int .i64 (wOf c k))∧Below W.heap.size W w') :=
  Lib.hid (fun k W h hk=>kof_any A B na ca n cb z c k W (hB.below h) hl (by omega) hk)
 have HCN : Hid (∀ W,Below w.heap.size w W→Calls Tryz.prog 141 #[.agg #[.slice A na ca,.slice B n cb,.int .i64 z],.int .i64 i] W fun e w'=>e = .returned (.int .i64 N1)∧Below W.heap.size W w') :=
  Lib.hid (fun W h=>by rw [← HN1.out];exact kon_any A B na ca n cb z c i W (hB.below h) hl hin (by omega))
 have HCR : Hid (∀ W,Below w.heap.size w W→Calls Tryz.prog 142 #[.agg #[.slice A na ca,.slice B n cb,.int .i64 z],.int .i64 i] W fun e w'=>e = .returned (.int .i64 (R1 : Nat))∧Below W.heap.size W w') :=
  Lib.hid (fun W h=>by rw [← HR1.out];exact kregions_any A B na ca n cb z c i W (hB.below h) hl (by omega) (by omega))
 obtain ⟨blk,off,eB,hc1⟩:=hB.atZ Hp.out
 obtain ⟨blk2,off2,eB2,hc2⟩:=hB.atZ Hq.out
 obtain ⟨rfl,rfl⟩ : blk = blk2∧off = off2:=by rw [eB] at eB2;injection eB2 with e;injection e with e1 e2;exact ⟨e1,e2⟩
 have hc1:=cell_keep hc1 hBz
 have hc2:=cell_keep hc2 hBz
 subst eB
 clear eB2 hB hl Hb Hy HN1 HR1 Hp Hq hK
 obtain ⟨j,rfl⟩ : ∃ j,i = j+1:=⟨i - 1,by omega⟩
 rw [Nat.add_sub_cancel] at hc1
 go_enter Tryz.func116,Tryz.ntmps116
 have e1 : ((j+1 : Nat) : Int) - 1 = (j : Int):=by omega
 go_upto_region 1 with fail
 go_region
 have hB1:=below_drewN hBz 1
 have k0 : (w.alloc (.cells #[.slice A na ca,.slice (some ⟨blk,off,none⟩) n cb,.int .i64 z] 165)).drew.cell? ⟨w.heap.size,0,none⟩ = _:=k0
 have k1 : (w.alloc (.cells #[.slice A na ca,.slice (some ⟨blk,off,none⟩) n cb,.int .i64 z] 165)).drew.cell? ⟨w.heap.size,1,none⟩ = _:=k1
 have k2 : (w.alloc (.cells #[.slice A na ca,.slice (some ⟨blk,off,none⟩) n cb,.int .i64 z] 165)).drew.cell? ⟨w.heap.size,2,none⟩ = _:=k2
 clear hc1 hc2 hBz
 have hB1 : Below w.heap.size w (w.alloc (.cells #[.slice A na ca,.slice (some ⟨blk,off,none⟩) n cb,.int .i64 z] 165)).drew:=hB1
 generalize (w.alloc (.cells #[.slice A na ca,.slice (some ⟨blk,off,none⟩) n cb,.int .i64 z] 165)).drew = w1 at hB1 k0 k1 k2 ⊢
 go_upto_region 2 with fail
 go_cut [19] from 19 (fun v wx=>v = .bool x1∧w1 = wx)
 case first =>
  cases h1 : (p == 1) with
  | false=>go_wp2_with fail;go_meet;exact ⟨by rw [← H1.out,h1];rfl,rfl⟩
  | true =>
   cases h2 : (q == 2) with
   | false=>go_wp2_with fail;go_meet;exact ⟨by rw [← H1.out,h1,h2];rfl,rfl⟩
   | true=>go_wp2_with fail;go_meet;exact ⟨by rw [← H1.out,h1,h2];rfl,rfl⟩
 case rest =>
  obtain ⟨rfl,rfl⟩:=hcut
  cases x1 with
  | true =>
   go_wp2
   go_ret
   exact ⟨by rw [HW.out];simp,hB1⟩
  | false =>
   go_upto_region 4 with fail
   go_cut [26] from 19 (fun v wx=>v = .bool x2∧w1 = wx)
   case first =>
    cases h1 : wEnd p with
    | true=>go_wp2_with (go_at_call 136;refine (kends_any _ _).mono ?_;rw [h1];rintro e w' ⟨rfl,rfl⟩);go_meet;exact ⟨by rw [← H2.out,h1];rfl,rfl⟩
    | false =>
     cases h2 : wEnd q with
     | false=>go_wp2_with (go_at_call 136;refine (kends_any _ _).mono ?_;(first | rw [h1] | rw [h2]);rintro e w' ⟨rfl,rfl⟩);go_meet;exact ⟨by rw [← H2.out,h1,h2];rfl,rfl⟩
     | true=>go_wp2_with (go_at_call 136;refine (kends_any _ _).mono ?_;(first | rw [h1] | rw [h2]);rintro e w' ⟨rfl,rfl⟩);go_meet;exact ⟨by rw [← H2.out,h1,h2];rfl,rfl⟩
   case rest =>
    obtain ⟨rfl,rfl⟩:=hcut
    cases x2 with
    | true =>
     go_wp2
     go_ret
     exact ⟨by rw [HW.out];simp,hB1⟩
    | false =>
     go_upto_region 6 with fail
     go_cut [33] from 19 (fun v wx=>v = .bool x3∧w1 = wx)
     case first =>
      cases h1 : (p == 5) with
      | false=>go_wp2_with fail;go_meet;exact ⟨by rw [← H3.out,h1];rfl,rfl⟩
      | true =>
       cases h2 : (q == 19) with
       | false=>go_wp2_with fail;go_meet;exact ⟨by rw [← H3.out,h1,h2];rfl,rfl⟩
       | true=>go_wp2_with fail;go_meet;exact ⟨by rw [← H3.out,h1,h2];rfl,rfl⟩
     case rest =>
      obtain ⟨rfl,rfl⟩:=hcut
      cases x3 with
      | true =>
       go_wp2
       go_ret
       exact ⟨by rw [HW.out];simp,hB1⟩
      | false =>
       go_upto_region 7 with fail
       go_cut [33] from 19 (fun v wx=>v = .bool x4∧w1 = wx)
       case first =>
        cases h1 : (p == 18) with
        | false=>go_wp2_with fail;go_meet;exact ⟨by rw [← H4.out,h1];rfl,rfl⟩
        | true =>
         cases h2 : (q == 18) with
         | false=>go_wp2_with fail;go_meet;exact ⟨by rw [← H4.out,h1,h2];rfl,rfl⟩
         | true=>go_wp2_with fail;go_meet;exact ⟨by rw [← H4.out,h1,h2];rfl,rfl⟩
       case rest =>
        obtain ⟨rfl,rfl⟩:=hcut
        cases x4 with
        | true =>
         go_wp2
         go_ret
         exact ⟨by rw [HW.out];simp,hB1⟩
        | false =>
         go_upto_region 8 with fail
         go_cut [33] from 19 (fun v wx=>v = .bool x5∧w1 = wx)
         case first =>
          go_wp2_with (go_at_call 137;refine (khangs_any _ _).mono ?_;rw [H5.out];rintro e w' ⟨rfl,rfl⟩);go_meet;exact ⟨rfl,rfl⟩
         case rest =>
          obtain ⟨rfl,rfl⟩:=hcut
          cases x5 with
          | true =>
           go_wp2
           go_ret
           exact ⟨by rw [HW.out];simp,hB1⟩
          | false =>
           go_upto_region 10 with fail
           go_wp2_with fail
           refine (HCb.out _ hB1).mono ?_
           rintro e w2 ⟨rfl,hb2⟩
           replace k0:=cell_keep k0 hb2
           replace k1:=cell_keep k1 hb2
           replace k2:=cell_keep k2 hb2
           replace hB1:=below_step hB1 hb2 hB1.size
           go_upto_region 11 with fail
           go_cut [63] from 19 (fun v wx=>v = .bool x6∧wx.cell? ⟨w.heap.size,0,none⟩ = some (.slice A na ca)∧wx.cell? ⟨w.heap.size,1,none⟩ = some (.slice (some ⟨blk,off,none⟩) n cb)∧wx.cell? ⟨w.heap.size,2,none⟩ = some (.int .i64 z)∧Below w.heap.size w wx)
           case first =>
            clear HCb HCR
            have HST:=Lib.hid (fun (V : World) (h : Below w2.heap.size w2 V)=>And.intro (cell_keep k0 h) (And.intro (cell_keep k1 h) (And.intro (cell_keep k2 h) h)))
            have HB1:=Lib.hid (fun (V : World) (h : Below w2.heap.size w2 V)=>below_step hB1 h hB1.size)
            go_region_held3 (fun V=>V.cell? ⟨w.heap.size,0,none⟩ = some (.slice A na ca)∧V.cell? ⟨w.heap.size,1,none⟩ = some (.slice (some ⟨blk,off,none⟩) n cb)∧V.cell? ⟨w.heap.size,2,none⟩ = some (.int .i64 z)∧Below w2.heap.size w2 V)
             (first | exact HST.out _ Ba | exact HST.out _ Bb | exact HST.out _ Bd | exact HST.out _ (Below.refl _ _) | exact HST.out _ (below_drewN (Below.refl _ _) 1))
             (first
              | (go_at_call 138;go_split_ands;refine (HCy.out _ (HB1.out _ (by assumption))).mono ?_;rintro e wa ⟨rfl,hz⟩;have Ba:=below_two (by assumption) hz)
              | (go_at_call 140;go_split_ands;refine (HCof.out _ _ (HB1.out _ (by assumption)) (by omega)).mono ?_;rintro e wb ⟨rfl,hz⟩;have Bb:=below_two (by assumption) hz)
              | (go_at_call 141;go_split_ands;refine (HCN.out _ (HB1.out _ (by assumption))).mono ?_;rintro e wd ⟨rfl,hz⟩;have Bd:=below_two (by assumption) hz)
              | (go_at_call 139;go_split_ands;refine (kletters_any _ _ _ _ _).mono ?_;rw [H6.out];rintro e we ⟨rfl,rfl⟩))
            go_wp2_with fail
            go_meet
            first | exact ⟨rfl,HST.out _ Bb |>.1,HST.out _ Bb |>.2.1,HST.out _ Bb |>.2.2.1,HB1.out _ Bb⟩ | exact ⟨rfl,(HST.out _ Bd).1,(HST.out _ Bd).2.1,(HST.out _ Bd).2.2.1,HB1.out _ Bd⟩
           case rest =>
            obtain ⟨rfl,k0,k1,k2,hB2⟩:=hcut
            cases x6 with
            | true =>
             go_wp2
             go_ret
             exact ⟨by rw [HW.out];simp,hB2⟩
            | false =>
             cases h7 : (q != 7) with
             | true =>
              have HV : Hid (wCut c (j+1) = true):=Lib.hid (by rw [HW.out];simp [show (q == 7) = false by simpa using h7])
              go_wp2
              go_ret
              exact ⟨by rw [HV.out];rfl,hB2⟩
             | false =>
              have HV : Hid (wCut c (j+1) = ((R1 : Int) % 2 == 0)):=Lib.hid (by
               rw [HW.out]
               simp only [show (q == 7) = true by simpa using h7,Bool.false_eq_true,if_false,Bool.or_self,Bool.not_true,Bool.false_or]
               rcases (by omega : R1 % 2 = 0∨R1 % 2 = 1) with h | h
               ·rw [h,show (R1 : Int) % 2 = 0 by omega];rfl
               ·rw [h,show (R1 : Int) % 2 = 1 by omega];rfl)
              go_wp2_with fail
              refine (HCR.out _ hB2).mono ?_
              rintro e w3 ⟨rfl,hb3⟩
              go_wp2
              go_ret
              exact ⟨by rw [HV.out];rfl,below_step hB2 hb3 hB2.size⟩
end
end Go.Proofs.YtlfpdpbbkjnapaaGreatDoor
