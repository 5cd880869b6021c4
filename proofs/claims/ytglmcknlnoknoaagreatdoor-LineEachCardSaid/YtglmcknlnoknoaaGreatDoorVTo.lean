/- -/
import Derived.Deep.CutRange
import Derived.Deep.RegionHeld3
import Derived.Test.YtglmcknlnoknoaaGreatDoorV0b
namespace Go.Proofs.YtglmcknlnoknoaaGreatDoor
set_option maxRecDepth 100000
set_option maxHeartbeats 40000000
section
open Go.RowKit
theorem tover_any (A B : Option Addr) (na ca n cb : Nat) (c : List Int) (i : Nat) (q : Int) (w : World) (hB : Rd w 1 B (c.map encZ)) (hl : c.length = n) (_h1i : 1≤i) (hin : i < n) (hn : n≤3000000) :
  Calls Tryz.prog 194 #[.agg #[.slice A na ca,.slice B n cb],.int .i64 i,.int .i64 q] w fun e w'=>e = .returned (.bool (lOver c i q))∧Below w.heap.size w w':=by
 have hBz : Below w.heap.size w (w.alloc (.cells #[.slice A na ca,.slice B n cb] 186)):=(Below.refl _ _).alloc (Nat.le_refl _) _
 have hK:=Blk.new w 186 #[.slice A na ca,.slice B n cb]
 have k0:=hK.cell 0
 have k1:=hK.cell 1
 simp only [zG,zH,zI] at k0 k1
 have HLs:=Lib.hid (fun (j : Nat) W (h : Below w.heap.size w W) (hj : j≤n)=>tlast_any A B na ca n cb c j W (hB.below h) hl hj (by omega))
 have HPs:=Lib.hid (fun (j : Nat) (k : Int) W (h : Below w.heap.size w W) (hj : j≤n)=>tpast_any A B na ca n cb c j k W (hB.below h) hl hj (by omega))
 obtain ⟨a,Ha⟩ : ∃ a,Hid (lLast c (lPast c 8 (lPast c 4 i)) = a):=⟨_,Lib.hid rfl⟩
 have g4:=lPast_le c 4 i
 have g8:=lPast_le c 8 (lPast c 4 i)
 obtain ⟨x1,H1⟩ : ∃ x,Hid (((a == 9) || ((a == 12) && (q == 9)) || (([11,10].contains a) && (q == 24)) || ((a == 18) && (q == 18))) = x):=⟨_,Lib.hid rfl⟩
 have HW : Hid (lOver c i q = x1):=Lib.hid (by rw [← H1.out,← Ha.out];rfl)
 have hb:=hBz
 clear hBz hB hl hK
 go_enter Tryz.func194,Tryz.ntmps194
 go_upto_region 1 with fail
 generalize w.alloc (.cells #[.slice A na ca,.slice B n cb] 186) = w1 at hb k0 k1 ⊢
 go_cut [7] from 7 (fun v wx=>v = .int .i64 a∧Below w.heap.size w wx∧wx.cell? ⟨w.heap.size,0,none⟩ = some (.slice A na ca)∧wx.cell? ⟨w.heap.size,1,none⟩ = some (.slice B n cb))
 case first =>
  have HST:=Lib.hid (fun (V : World) (h : Below w1.heap.size w1 V)=>And.intro (cell_keep k0 h) (And.intro (cell_keep k1 h) h))
  have HB1:=Lib.hid (fun (V : World) (h : Below w1.heap.size w1 V)=>below_step hb h hb.size)
  go_region_held3 (fun V=>V.cell? ⟨w.heap.size,0,none⟩ = some (.slice A na ca)∧V.cell? ⟨w.heap.size,1,none⟩ = some (.slice B n cb)∧Below w1.heap.size w1 V)
   (first | exact HST.out _ Ba | exact HST.out _ Bb | exact HST.out _ (Below.refl _ _) | exact HST.out _ (below_drewN (Below.refl _ _) 1))
   (first
    | (go_at_call 191;go_split_ands;refine (HPs.out _ _ _ (HB1.out _ (by assumption)) (by omega)).mono ?_;rintro e wa ⟨rfl,hz⟩;have Ba:=below_two (by assumption) hz)
    | (go_at_call 190;go_split_ands;refine (HLs.out _ _ (HB1.out _ (by assumption)) (by omega)).mono ?_;rintro e wb ⟨rfl,hz⟩;have Bb:=below_two (by assumption) hz))
  go_wp2_with fail
  go_meet
  exact ⟨by rw [← Ha.out],HB1.out _ Bb,(HST.out _ Bb).1,(HST.out _ Bb).2.1⟩
 case rest =>
  clear hb k0 k1
  obtain ⟨rfl,hb,k0,k1⟩:=hcut
  cases h1 : (a == 9) with
  | true =>
   go_wp2_with fail
   go_ret
   exact ⟨by rw [HW.out,← H1.out,h1];rfl,hb⟩
  | false =>
   cases h2 : (a == 12) with
   | true =>
    cases h3 : (q == 9) with
    | true =>
     go_wp2_with fail
     go_ret
     exact ⟨by rw [HW.out,← H1.out,h1,h2,h3];rfl,hb⟩
    | false =>
     cases h4 : ([11,10].contains a) with
     | true =>
      cases h5 : (q == 24) with
      | true =>
       go_wp2_with fail
       refine (tamong_b _ [11,10] 2 _ _ rfl rfl (by decide)).mono ?_
       rw [h4]
       rintro e wn ⟨rfl,hz⟩
       replace k0:=cell_keep k0 hz
       replace k1:=cell_keep k1 hz
       replace hb:=below_step hb hz hb.size
       clear hz
       go_wp2_with fail
       go_ret
       exact ⟨by rw [HW.out,← H1.out,h1,h2,h3,h4,h5];rfl,hb⟩
      | false =>
       cases h6 : (a == 18) with
       | true =>
        cases h7 : (q == 18) with
        | true =>
         go_wp2_with fail
         refine (tamong_b _ [11,10] 2 _ _ rfl rfl (by decide)).mono ?_
         rw [h4]
         rintro e wn ⟨rfl,hz⟩
         replace k0:=cell_keep k0 hz
         replace k1:=cell_keep k1 hz
         replace hb:=below_step hb hz hb.size
         clear hz
         go_wp2_with fail
         go_ret
         exact ⟨by rw [HW.out,← H1.out,h1,h2,h3,h4,h5,h6,h7];rfl,hb⟩
        | false =>
         go_wp2_with fail
         refine (tamong_b _ [11,10] 2 _ _ rfl rfl (by decide)).mono ?_
         rw [h4]
         rintro e wn ⟨rfl,hz⟩
         replace k0:=cell_keep k0 hz
         replace k1:=cell_keep k1 hz
         replace hb:=below_step hb hz hb.size
         clear hz
         go_wp2_with fail
         go_ret
         exact ⟨by rw [HW.out,← H1.out,h1,h2,h3,h4,h5,h6,h7];rfl,hb⟩
       | false =>
        go_wp2_with fail
        refine (tamong_b _ [11,10] 2 _ _ rfl rfl (by decide)).mono ?_
        rw [h4]
        rintro e wn ⟨rfl,hz⟩
        replace k0:=cell_keep k0 hz
        replace k1:=cell_keep k1 hz
        replace hb:=below_step hb hz hb.size
        clear hz
        go_wp2_with fail
        go_ret
        exact ⟨by rw [HW.out,← H1.out,h1,h2,h3,h4,h5,h6];rfl,hb⟩
     | false =>
      cases h5 : (a == 18) with
      | true =>
       cases h6 : (q == 18) with
       | true =>
        go_wp2_with fail
        refine (tamong_b _ [11,10] 2 _ _ rfl rfl (by decide)).mono ?_
        rw [h4]
        rintro e wn ⟨rfl,hz⟩
        replace k0:=cell_keep k0 hz
        replace k1:=cell_keep k1 hz
        replace hb:=below_step hb hz hb.size
        clear hz
        go_wp2_with fail
        go_ret
        exact ⟨by rw [HW.out,← H1.out,h1,h2,h3,h4,h5,h6];rfl,hb⟩
       | false =>
        go_wp2_with fail
        refine (tamong_b _ [11,10] 2 _ _ rfl rfl (by decide)).mono ?_
        rw [h4]
        rintro e wn ⟨rfl,hz⟩
        replace k0:=cell_keep k0 hz
        replace k1:=cell_keep k1 hz
        replace hb:=below_step hb hz hb.size
        clear hz
        go_wp2_with fail
        go_ret
        exact ⟨by rw [HW.out,← H1.out,h1,h2,h3,h4,h5,h6];rfl,hb⟩
      | false =>
       go_wp2_with fail
       refine (tamong_b _ [11,10] 2 _ _ rfl rfl (by decide)).mono ?_
       rw [h4]
       rintro e wn ⟨rfl,hz⟩
       replace k0:=cell_keep k0 hz
       replace k1:=cell_keep k1 hz
       replace hb:=below_step hb hz hb.size
       clear hz
       go_wp2_with fail
       go_ret
       exact ⟨by rw [HW.out,← H1.out,h1,h2,h3,h4,h5];rfl,hb⟩
   | false =>
    cases h3 : ([11,10].contains a) with
    | true =>
     cases h4 : (q == 24) with
     | true =>
      go_wp2_with fail
      refine (tamong_b _ [11,10] 2 _ _ rfl rfl (by decide)).mono ?_
      rw [h3]
      rintro e wn ⟨rfl,hz⟩
      replace k0:=cell_keep k0 hz
      replace k1:=cell_keep k1 hz
      replace hb:=below_step hb hz hb.size
      clear hz
      go_wp2_with fail
      go_ret
      exact ⟨by rw [HW.out,← H1.out,h1,h2,h3,h4];rfl,hb⟩
     | false =>
      cases h5 : (a == 18) with
      | true =>
       cases h6 : (q == 18) with
       | true =>
        go_wp2_with fail
        refine (tamong_b _ [11,10] 2 _ _ rfl rfl (by decide)).mono ?_
        rw [h3]
        rintro e wn ⟨rfl,hz⟩
        replace k0:=cell_keep k0 hz
        replace k1:=cell_keep k1 hz
        replace hb:=below_step hb hz hb.size
        clear hz
        go_wp2_with fail
        go_ret
        exact ⟨by rw [HW.out,← H1.out,h1,h2,h3,h4,h5,h6];rfl,hb⟩
       | false =>
        go_wp2_with fail
        refine (tamong_b _ [11,10] 2 _ _ rfl rfl (by decide)).mono ?_
        rw [h3]
        rintro e wn ⟨rfl,hz⟩
        replace k0:=cell_keep k0 hz
        replace k1:=cell_keep k1 hz
        replace hb:=below_step hb hz hb.size
        clear hz
        go_wp2_with fail
        go_ret
        exact ⟨by rw [HW.out,← H1.out,h1,h2,h3,h4,h5,h6];rfl,hb⟩
      | false =>
       go_wp2_with fail
       refine (tamong_b _ [11,10] 2 _ _ rfl rfl (by decide)).mono ?_
       rw [h3]
       rintro e wn ⟨rfl,hz⟩
       replace k0:=cell_keep k0 hz
       replace k1:=cell_keep k1 hz
       replace hb:=below_step hb hz hb.size
       clear hz
       go_wp2_with fail
       go_ret
       exact ⟨by rw [HW.out,← H1.out,h1,h2,h3,h4,h5];rfl,hb⟩
    | false =>
     cases h4 : (a == 18) with
     | true =>
      cases h5 : (q == 18) with
      | true =>
       go_wp2_with fail
       refine (tamong_b _ [11,10] 2 _ _ rfl rfl (by decide)).mono ?_
       rw [h3]
       rintro e wn ⟨rfl,hz⟩
       replace k0:=cell_keep k0 hz
       replace k1:=cell_keep k1 hz
       replace hb:=below_step hb hz hb.size
       clear hz
       go_wp2_with fail
       go_ret
       exact ⟨by rw [HW.out,← H1.out,h1,h2,h3,h4,h5];rfl,hb⟩
      | false =>
       go_wp2_with fail
       refine (tamong_b _ [11,10] 2 _ _ rfl rfl (by decide)).mono ?_
       rw [h3]
       rintro e wn ⟨rfl,hz⟩
       replace k0:=cell_keep k0 hz
       replace k1:=cell_keep k1 hz
       replace hb:=below_step hb hz hb.size
       clear hz
       go_wp2_with fail
       go_ret
       exact ⟨by rw [HW.out,← H1.out,h1,h2,h3,h4,h5];rfl,hb⟩
     | false =>
      go_wp2_with fail
      refine (tamong_b _ [11,10] 2 _ _ rfl rfl (by decide)).mono ?_
      rw [h3]
      rintro e wn ⟨rfl,hz⟩
      replace k0:=cell_keep k0 hz
      replace k1:=cell_keep k1 hz
      replace hb:=below_step hb hz hb.size
      clear hz
      go_wp2_with fail
      go_ret
      exact ⟨by rw [HW.out,← H1.out,h1,h2,h3,h4];rfl,hb⟩
end
end Go.Proofs.YtglmcknlnoknoaaGreatDoor
