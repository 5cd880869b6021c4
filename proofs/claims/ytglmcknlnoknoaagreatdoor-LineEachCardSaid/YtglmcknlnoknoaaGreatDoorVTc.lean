/- -/
import Derived.Deep.CutRange
import Derived.Deep.RegionHeld3
import Derived.Test.YtglmcknlnoknoaaGreatDoorVTl
import Derived.Test.YtglmcknlnoknoaaGreatDoorVTg
import Derived.Test.YtglmcknlnoknoaaGreatDoorVTo
namespace Go.Proofs.YtglmcknlnoknoaaGreatDoor
set_option maxRecDepth 100000
set_option maxHeartbeats 40000000
section
open Go.RowKit
theorem tcut_any (A B : Option Addr) (na ca n cb : Nat) (c : List Int) (i : Nat) (w : World) (hB : Rd w 1 B (c.map encZ)) (hl : c.length = n) (h1i : 1≤i) (hin : i < n) (hn : n≤3000000) :
  Calls Tryz.prog 150 #[.agg #[.slice A na ca,.slice B n cb],.int .i64 i] w fun e w'=>e = .returned (.bool (lCut c i))∧Below w.heap.size w w':=by
 have hBz : Below w.heap.size w (w.alloc (.cells #[.slice A na ca,.slice B n cb] 186)):=(Below.refl _ _).alloc (Nat.le_refl _) _
 have hK:=Blk.new w 186 #[.slice A na ca,.slice B n cb]
 have k0:=hK.cell 0
 have k1:=hK.cell 1
 simp only [zG,zH,zI] at k0 k1
 have HLs:=Lib.hid (fun (j : Nat) W (h : Below w.heap.size w W) (hj : j≤n)=>tlast_any A B na ca n cb c j W (hB.below h) hl hj (by omega))
 have HPs:=Lib.hid (fun (j : Nat) (k : Int) W (h : Below w.heap.size w W) (hj : j≤n)=>tpast_any A B na ca n cb c j k W (hB.below h) hl hj (by omega))
 obtain ⟨p,Hp⟩ : ∃ p,Hid (c[i - 1]? = some p):=⟨_,Lib.hid (List.getElem?_eq_getElem (by omega))⟩
 obtain ⟨q,Hq⟩ : ∃ q,Hid (c[i]? = some q):=⟨_,Lib.hid (List.getElem?_eq_getElem (by omega))⟩
 obtain ⟨b,Hb⟩ : ∃ b,Hid (lLast c (lPast c 8 i) = b):=⟨_,Lib.hid rfl⟩
 obtain ⟨yg,Hyg⟩ : ∃ x,Hid (lGlued p b q = x):=⟨_,Lib.hid rfl⟩
 obtain ⟨yo,Hyo⟩ : ∃ x,Hid (lOver c i q = x):=⟨_,Lib.hid rfl⟩
 obtain ⟨yl,Hyl⟩ : ∃ x,Hid (lLetters c i b q = x):=⟨_,Lib.hid rfl⟩
 have g8:=lPast_le c 8 i
 have g4:=lPast_le c 4 i
 obtain ⟨x1,H1⟩ : ∃ x,Hid (((p == 2) && (q == 3)) = x):=⟨_,Lib.hid rfl⟩
 obtain ⟨x2,H2⟩ : ∃ x,Hid (([1,2,3].contains p) = x):=⟨_,Lib.hid rfl⟩
 obtain ⟨x3,H3⟩ : ∃ x,Hid (([1,2,3,4,5].contains q) = x):=⟨_,Lib.hid rfl⟩
 obtain ⟨x4,H4⟩ : ∃ x,Hid ((lLast c (lPast c 4 i) == 5) = x):=⟨_,Lib.hid rfl⟩
 obtain ⟨x5,H5⟩ : ∃ x,Hid ((p == 4) = x):=⟨_,Lib.hid rfl⟩
 have HW : Hid (lCut c i = if x1 then false else if x2 then true else if x3 then false else if x4 then true else if (yg || yo) then false else if x5 then true else !yl):=Lib.hid (by
  rw [← H1.out,← H2.out,← H3.out,← H4.out,← H5.out,← Hyg.out,← Hyo.out,← Hyl.out,← Hb.out]
  unfold lCut lMust
  rw [getD_of Hp.out,getD_of Hq.out]
  simp only [Bool.and_eq_true,beq_iff_eq])
 have HCg : Hid (∀ W,Below w.heap.size w W→Calls Tryz.prog 193 #[.agg #[.slice A na ca,.slice B n cb],.int .i64 i,.int .i64 b,.int .i64 q] W fun e w'=>e = .returned (.bool yg)∧Below W.heap.size W w'):=Lib.hid (fun W h=>by rw [← Hyg.out];exact tglued_any A B na ca n cb c i p b q Hp.out W (hB.below h) hl h1i hin hn)
 have HCo : Hid (∀ W,Below w.heap.size w W→Calls Tryz.prog 194 #[.agg #[.slice A na ca,.slice B n cb],.int .i64 i,.int .i64 q] W fun e w'=>e = .returned (.bool yo)∧Below W.heap.size W w'):=Lib.hid (fun W h=>by rw [← Hyo.out];exact tover_any A B na ca n cb c i q W (hB.below h) hl h1i hin hn)
 have HCl : Hid (∀ W,Below w.heap.size w W→Calls Tryz.prog 195 #[.agg #[.slice A na ca,.slice B n cb],.int .i64 i,.int .i64 b,.int .i64 q] W fun e w'=>e = .returned (.bool yl)∧Below W.heap.size W w'):=Lib.hid (fun W h=>by rw [← Hyl.out];exact tletters_any A B na ca n cb c i b q W (hB.below h) hl h1i hin hn)
 obtain ⟨blk,off,eB,hc1⟩:=hB.atZ Hp.out
 obtain ⟨blk2,off2,eB2,hc2⟩:=hB.atZ Hq.out
 obtain ⟨rfl,rfl⟩ : blk = blk2∧off = off2:=by rw [eB] at eB2;injection eB2 with e;injection e with e1 e2;exact ⟨e1,e2⟩
 have hc1:=cell_keep hc1 hBz
 have hc2:=cell_keep hc2 hBz
 subst eB
 clear eB2 hB hl Hp Hq hK Hyg Hyo Hyl
 obtain ⟨j,hj⟩ : ∃ j,i - 1 = j:=⟨_,rfl⟩
 rw [hj] at hc1
 have e1 : (i : Int) - 1 = (j : Int):=by omega
 clear hj
 go_enter Tryz.func150,Tryz.ntmps150
 go_upto_region 1 with fail
 go_region
 have hb:=below_drewN hBz 1
 have k0 : (w.alloc (.cells #[.slice A na ca,.slice (some ⟨blk,off,none⟩) n cb] 186)).drew.cell? ⟨w.heap.size,0,none⟩ = _:=k0
 have k1 : (w.alloc (.cells #[.slice A na ca,.slice (some ⟨blk,off,none⟩) n cb] 186)).drew.cell? ⟨w.heap.size,1,none⟩ = _:=k1
 clear hc1 hc2 hBz
 have hb : Below w.heap.size w (w.alloc (.cells #[.slice A na ca,.slice (some ⟨blk,off,none⟩) n cb] 186)).drew:=hb
 generalize (w.alloc (.cells #[.slice A na ca,.slice (some ⟨blk,off,none⟩) n cb] 186)).drew = w1 at hb k0 k1 ⊢
 go_upto_region 2 with fail
 go_cut [7] from 7 (fun v wx=>v = .int .i64 b∧Below w.heap.size w wx∧wx.cell? ⟨w.heap.size,0,none⟩ = some (.slice A na ca)∧wx.cell? ⟨w.heap.size,1,none⟩ = some (.slice (some ⟨blk,off,none⟩) n cb))
 case first =>
  have HST:=Lib.hid (fun (V : World) (h : Below w1.heap.size w1 V)=>And.intro (cell_keep k0 h) (And.intro (cell_keep k1 h) h))
  have HB1:=Lib.hid (fun (V : World) (h : Below w1.heap.size w1 V)=>below_step hb h hb.size)
  go_region_held3 (fun V=>V.cell? ⟨w.heap.size,0,none⟩ = some (.slice A na ca)∧V.cell? ⟨w.heap.size,1,none⟩ = some (.slice (some ⟨blk,off,none⟩) n cb)∧Below w1.heap.size w1 V)
   (first | exact HST.out _ Ba | exact HST.out _ Bb | exact HST.out _ (Below.refl _ _) | exact HST.out _ (below_drewN (Below.refl _ _) 1))
   (first
    | (go_at_call 191;go_split_ands;refine (HPs.out _ _ _ (HB1.out _ (by assumption)) (by omega)).mono ?_;rintro e wa ⟨rfl,hz⟩;have Ba:=below_two (by assumption) hz)
    | (go_at_call 190;go_split_ands;refine (HLs.out _ _ (HB1.out _ (by assumption)) (by omega)).mono ?_;rintro e wb ⟨rfl,hz⟩;have Bb:=below_two (by assumption) hz))
  go_wp2_with fail
  go_meet
  exact ⟨by rw [← Hb.out],HB1.out _ Bb,(HST.out _ Bb).1,(HST.out _ Bb).2.1⟩
 case rest =>
  clear hb k0 k1
  obtain ⟨rfl,hb,k0,k1⟩:=hcut
  go_upto_region 3 with fail
  go_cut [24] from 8 (fun v wx=>v = .bool x1∧Below w.heap.size w wx∧wx.cell? ⟨w.heap.size,0,none⟩ = some (.slice A na ca)∧wx.cell? ⟨w.heap.size,1,none⟩ = some (.slice (some ⟨blk,off,none⟩) n cb))
  case first =>
   cases h1 : (p == 2) with
   | true =>
    cases h2 : (q == 3) with
    | true =>
     go_wp2_with fail
     go_meet
     exact ⟨by rw [← H1.out,h1,h2] <;> rfl,hb,k0,k1⟩
    | false =>
     go_wp2_with fail
     go_meet
     exact ⟨by rw [← H1.out,h1,h2] <;> rfl,hb,k0,k1⟩
   | false =>
    go_wp2_with fail
    go_meet
    exact ⟨by rw [← H1.out,h1] <;> rfl,hb,k0,k1⟩
  case rest =>
   obtain ⟨rfl,hb,k0,k1⟩:=hcut
   cases x1 with
   | true =>
    go_wp2
    go_ret
    exact ⟨by rw [HW.out];simp,hb⟩
   | false =>
    go_upto_region 5 with fail
    go_cut [31] from 8 (fun v wx=>v = .bool x2∧Below w.heap.size w wx∧wx.cell? ⟨w.heap.size,0,none⟩ = some (.slice A na ca)∧wx.cell? ⟨w.heap.size,1,none⟩ = some (.slice (some ⟨blk,off,none⟩) n cb))
    case first =>
     cases h1 : ([1,2,3].contains p) with
     | true =>
      go_wp2_with fail
      refine (tamong_b _ [1,2,3] 3 _ _ rfl rfl (by decide)).mono ?_
      rw [h1]
      rintro e wn ⟨rfl,hz⟩
      replace k0:=cell_keep k0 hz
      replace k1:=cell_keep k1 hz
      replace hb:=below_step hb hz hb.size
      clear hz
      go_wp2_with fail
      go_meet
      exact ⟨by rw [← H2.out,h1] <;> rfl,hb,k0,k1⟩
     | false =>
      go_wp2_with fail
      refine (tamong_b _ [1,2,3] 3 _ _ rfl rfl (by decide)).mono ?_
      rw [h1]
      rintro e wn ⟨rfl,hz⟩
      replace k0:=cell_keep k0 hz
      replace k1:=cell_keep k1 hz
      replace hb:=below_step hb hz hb.size
      clear hz
      go_wp2_with fail
      go_meet
      exact ⟨by rw [← H2.out,h1] <;> rfl,hb,k0,k1⟩
    case rest =>
     obtain ⟨rfl,hb,k0,k1⟩:=hcut
     cases x2 with
     | true =>
      go_wp2
      go_ret
      exact ⟨by rw [HW.out];simp,hb⟩
     | false =>
      go_upto_region 7 with fail
      go_cut [35] from 8 (fun v wx=>v = .bool x3∧Below w.heap.size w wx∧wx.cell? ⟨w.heap.size,0,none⟩ = some (.slice A na ca)∧wx.cell? ⟨w.heap.size,1,none⟩ = some (.slice (some ⟨blk,off,none⟩) n cb))
      case first =>
       cases h1 : ([1,2,3,4,5].contains q) with
       | true =>
        go_wp2_with fail
        refine (tamong_b _ [1,2,3,4,5] 5 _ _ rfl rfl (by decide)).mono ?_
        rw [h1]
        rintro e wn ⟨rfl,hz⟩
        replace k0:=cell_keep k0 hz
        replace k1:=cell_keep k1 hz
        replace hb:=below_step hb hz hb.size
        clear hz
        go_wp2_with fail
        go_meet
        exact ⟨by rw [← H3.out,h1] <;> rfl,hb,k0,k1⟩
       | false =>
        go_wp2_with fail
        refine (tamong_b _ [1,2,3,4,5] 5 _ _ rfl rfl (by decide)).mono ?_
        rw [h1]
        rintro e wn ⟨rfl,hz⟩
        replace k0:=cell_keep k0 hz
        replace k1:=cell_keep k1 hz
        replace hb:=below_step hb hz hb.size
        clear hz
        go_wp2_with fail
        go_meet
        exact ⟨by rw [← H3.out,h1] <;> rfl,hb,k0,k1⟩
      case rest =>
       obtain ⟨rfl,hb,k0,k1⟩:=hcut
       cases x3 with
       | true =>
        go_wp2
        go_ret
        exact ⟨by rw [HW.out];simp,hb⟩
       | false =>
        go_upto_region 9 with fail
        generalize wc = w1 at hb k0 k1 ⊢
        go_cut [39] from 8 (fun v wx=>v = .bool x4∧Below w.heap.size w wx∧wx.cell? ⟨w.heap.size,0,none⟩ = some (.slice A na ca)∧wx.cell? ⟨w.heap.size,1,none⟩ = some (.slice (some ⟨blk,off,none⟩) n cb))
        case first =>
         have HST:=Lib.hid (fun (V : World) (h : Below w1.heap.size w1 V)=>And.intro (cell_keep k0 h) (And.intro (cell_keep k1 h) h))
         have HB1:=Lib.hid (fun (V : World) (h : Below w1.heap.size w1 V)=>below_step hb h hb.size)
         go_region_held3 (fun V=>V.cell? ⟨w.heap.size,0,none⟩ = some (.slice A na ca)∧V.cell? ⟨w.heap.size,1,none⟩ = some (.slice (some ⟨blk,off,none⟩) n cb)∧Below w1.heap.size w1 V)
          (first | exact HST.out _ Ba | exact HST.out _ Bb | exact HST.out _ (Below.refl _ _) | exact HST.out _ (below_drewN (Below.refl _ _) 1))
          (first
           | (go_at_call 191;go_split_ands;refine (HPs.out _ _ _ (HB1.out _ (by assumption)) (by omega)).mono ?_;rintro e wa ⟨rfl,hz⟩;have Ba:=below_two (by assumption) hz)
           | (go_at_call 190;go_split_ands;refine (HLs.out _ _ (HB1.out _ (by assumption)) (by omega)).mono ?_;rintro e wb ⟨rfl,hz⟩;have Bb:=below_two (by assumption) hz))
         go_wp2_with fail
         go_meet
         exact ⟨by rw [← H4.out],HB1.out _ Bb,(HST.out _ Bb).1,(HST.out _ Bb).2.1⟩
        case rest =>
         clear hb k0 k1
         obtain ⟨rfl,hb,k0,k1⟩:=hcut
         cases x4 with
         | true =>
          go_wp2
          go_ret
          exact ⟨by rw [HW.out];simp,hb⟩
         | false =>
          go_upto_region 11 with fail
          go_cut [46] from 8 (fun v wx=>v = .bool yg∧Below w.heap.size w wx∧wx.cell? ⟨w.heap.size,0,none⟩ = some (.slice A na ca)∧wx.cell? ⟨w.heap.size,1,none⟩ = some (.slice (some ⟨blk,off,none⟩) n cb))
          case first =>
           go_wp2_with fail
           refine (HCg.out _ hb).mono ?_
           rintro e wn ⟨rfl,hz⟩
           replace k0:=cell_keep k0 hz
           replace k1:=cell_keep k1 hz
           replace hb:=below_step hb hz hb.size
           clear hz
           go_wp2_with fail
           go_meet
           exact ⟨rfl,hb,k0,k1⟩
          case rest =>
           obtain ⟨rfl,hb,k0,k1⟩:=hcut
           cases yg with
           | true =>
            go_wp2
            go_ret
            exact ⟨by rw [HW.out];simp,hb⟩
           | false =>
            go_upto_region 12 with fail
            go_cut [46] from 8 (fun v wx=>v = .bool yo∧Below w.heap.size w wx∧wx.cell? ⟨w.heap.size,0,none⟩ = some (.slice A na ca)∧wx.cell? ⟨w.heap.size,1,none⟩ = some (.slice (some ⟨blk,off,none⟩) n cb))
            case first =>
             go_wp2_with fail
             refine (HCo.out _ hb).mono ?_
             rintro e wn ⟨rfl,hz⟩
             replace k0:=cell_keep k0 hz
             replace k1:=cell_keep k1 hz
             replace hb:=below_step hb hz hb.size
             clear hz
             go_wp2_with fail
             go_meet
             exact ⟨rfl,hb,k0,k1⟩
            case rest =>
             obtain ⟨rfl,hb,k0,k1⟩:=hcut
             cases yo with
             | true =>
              go_wp2
              go_ret
              exact ⟨by rw [HW.out];simp,hb⟩
             | false =>
              go_upto_region 14 with fail
              go_cut [56] from 8 (fun v wx=>v = .bool x5∧Below w.heap.size w wx∧wx.cell? ⟨w.heap.size,0,none⟩ = some (.slice A na ca)∧wx.cell? ⟨w.heap.size,1,none⟩ = some (.slice (some ⟨blk,off,none⟩) n cb))
              case first =>
               cases h1 : (p == 4) with
               | true =>
                go_wp2_with fail
                go_meet
                exact ⟨by rw [← H5.out,h1] <;> rfl,hb,k0,k1⟩
               | false =>
                go_wp2_with fail
                go_meet
                exact ⟨by rw [← H5.out,h1] <;> rfl,hb,k0,k1⟩
              case rest =>
               obtain ⟨rfl,hb,k0,k1⟩:=hcut
               cases x5 with
               | true =>
                go_wp2
                go_ret
                exact ⟨by rw [HW.out];simp,hb⟩
               | false =>
                go_wp2_with fail
                refine (HCl.out _ hb).mono ?_
                rintro e wn ⟨rfl,hz⟩
                go_wp2
                go_ret
                exact ⟨by rw [HW.out];rfl,below_step hb hz hb.size⟩
end
end Go.Proofs.YtglmcknlnoknoaaGreatDoor
