/- -/
import Derived.Deep.CutRange
import Derived.Deep.RegionHeld3
import Derived.Test.YtglmcknlnoknoaaGreatDoorVTp
import Derived.Test.YtglmcknlnoknoaaGreatDoorV0b
namespace Go.Proofs.YtglmcknlnoknoaaGreatDoor
set_option maxRecDepth 100000
set_option maxHeartbeats 40000000
section
open Go.RowKit
theorem tletters_any (A B : Option Addr) (na ca n cb : Nat) (c : List Int) (i : Nat) (b q : Int) (w : World) (hB : Rd w 1 B (c.map encZ)) (hl : c.length = n) (h1i : 1≤i) (hin : i < n) (hn : n≤3000000) :
  Calls Tryz.prog 195 #[.agg #[.slice A na ca,.slice B n cb],.int .i64 i,.int .i64 b,.int .i64 q] w fun e w'=>e = .returned (.bool (lLetters c i b q))∧Below w.heap.size w w':=by
 have hBz : Below w.heap.size w (w.alloc (.cells #[.slice A na ca,.slice B n cb] 186)):=(Below.refl _ _).alloc (Nat.le_refl _) _
 have hK:=Blk.new w 186 #[.slice A na ca,.slice B n cb]
 have k0:=hK.cell 0
 have k1:=hK.cell 1
 simp only [zG,zH,zI] at k0 k1
 obtain ⟨yp,Hyp⟩ : ∃ x,Hid (lPairs b q = x):=⟨_,Lib.hid rfl⟩
 obtain ⟨yn,Hyn⟩ : ∃ x,Hid (lNum c i = x):=⟨_,Lib.hid rfl⟩
 obtain ⟨R1,HR1⟩ : ∃ x,Hid (lReg c i = x):=⟨_,Lib.hid rfl⟩
 obtain ⟨x1,H1⟩ : ∃ x,Hid ((([12,17,16,24,19].contains q) || (b == 12) || yp) = x):=⟨_,Lib.hid rfl⟩
 obtain ⟨x2,H2⟩ : ∃ x,Hid ((([21,22].contains q) && yn) = x):=⟨_,Lib.hid rfl⟩
 obtain ⟨x3,H3⟩ : ∃ x,Hid (([21,22].contains b && (q == 20 || [9,16].contains q && decide (i+1 < c.length) && c.getD (i+1) 0 == 20)) = x):=⟨_,Lib.hid rfl⟩
 have HW : Hid (lLetters c i b q = (x1 || x2 || x3 || (q == 25 && R1 % 2 == 1))):=Lib.hid (by rw [← H1.out,← H2.out,← H3.out,← HR1.out,← Hyp.out,← Hyn.out];rfl)
 have HCp : Hid (∀ W,Below w.heap.size w W→Calls Tryz.prog 241 #[.int .i64 b,.int .i64 q] W fun e w'=>e = .returned (.bool yp)∧Below W.heap.size W w'):=Lib.hid (fun W _=>by rw [← Hyp.out];exact tpairs_any b q W)
 have HCn : Hid (∀ W,Below w.heap.size w W→Calls Tryz.prog 242 #[.agg #[.slice A na ca,.slice B n cb],.int .i64 i] W fun e w'=>e = .returned (.bool yn)∧Below W.heap.size W w'):=Lib.hid (fun W h=>by rw [← Hyn.out];exact tnumber_any A B na ca n cb c i W (hB.below h) hl (by omega) hn)
 have HCr : Hid (∀ W,Below w.heap.size w W→Calls Tryz.prog 243 #[.agg #[.slice A na ca,.slice B n cb],.int .i64 i] W fun e w'=>e = .returned (.int .i64 (R1 : Nat))∧Below W.heap.size W w'):=Lib.hid (fun W h=>by rw [← HR1.out];exact tregions_any A B na ca n cb c i W (hB.below h) hl (by omega) hn)
 have HX : Hid ((i+1 < n∧∃ x,c.getD (i+1) 0 = x∧∃ blk off,B = some ⟨blk,off,none⟩∧w.cell? ⟨blk,off+(i+1),none⟩ = some (.int .i64 x))∨¬ i+1 < n):=Lib.hid (by
  by_cases h : i+1 < n
  ·have hx:=List.getElem?_eq_getElem (l:=c) (i:=i+1) (by omega)
   obtain ⟨blk,off,e,k⟩:=hB.atZ hx
   exact .inl ⟨h,_,getD_of hx,blk,off,e,k⟩
  ·exact .inr h)
 have HL:=Lib.hid hl
 have hb:=hBz
 clear hBz hB hl hK Hyp Hyn
 go_enter Tryz.func195,Tryz.ntmps195
 go_upto_region 1 with fail
 generalize w.alloc (.cells #[.slice A na ca,.slice B n cb] 186) = w1 at hb k0 k1 ⊢
 go_cut [9] from 9 (fun v wx=>v = .bool x1∧Below w.heap.size w wx∧wx.cell? ⟨w.heap.size,0,none⟩ = some (.slice A na ca)∧wx.cell? ⟨w.heap.size,1,none⟩ = some (.slice B n cb))
 case first =>
  cases h1 : ([12,17,16,24,19].contains q) with
  | true =>
   go_wp2_with fail
   refine (tamong_b _ [12,17,16,24,19] 5 _ _ rfl rfl (by decide)).mono ?_
   rw [h1]
   rintro e wn ⟨rfl,hz⟩
   replace k0:=cell_keep k0 hz
   replace k1:=cell_keep k1 hz
   replace hb:=below_step hb hz hb.size
   clear hz
   go_wp2_with fail
   go_meet
   exact ⟨by rw [← H1.out,h1] <;> rfl,hb,k0,k1⟩
  | false =>
   cases h2 : (b == 12) with
   | true =>
    go_wp2_with fail
    refine (tamong_b _ [12,17,16,24,19] 5 _ _ rfl rfl (by decide)).mono ?_
    rw [h1]
    rintro e wn ⟨rfl,hz⟩
    replace k0:=cell_keep k0 hz
    replace k1:=cell_keep k1 hz
    replace hb:=below_step hb hz hb.size
    clear hz
    go_wp2_with fail
    go_meet
    exact ⟨by rw [← H1.out,h1,h2] <;> rfl,hb,k0,k1⟩
   | false =>
    cases yp with
    | true =>
     go_wp2_with fail
     refine (tamong_b _ [12,17,16,24,19] 5 _ _ rfl rfl (by decide)).mono ?_
     rw [h1]
     rintro e wn ⟨rfl,hz⟩
     replace k0:=cell_keep k0 hz
     replace k1:=cell_keep k1 hz
     replace hb:=below_step hb hz hb.size
     clear hz
     go_wp2_with fail
     refine (HCp.out _ hb).mono ?_
     rintro e wn ⟨rfl,hz⟩
     replace k0:=cell_keep k0 hz
     replace k1:=cell_keep k1 hz
     replace hb:=below_step hb hz hb.size
     clear hz
     go_wp2_with fail
     go_meet
     exact ⟨by rw [← H1.out,h1,h2] <;> rfl,hb,k0,k1⟩
    | false =>
     go_wp2_with fail
     refine (tamong_b _ [12,17,16,24,19] 5 _ _ rfl rfl (by decide)).mono ?_
     rw [h1]
     rintro e wn ⟨rfl,hz⟩
     replace k0:=cell_keep k0 hz
     replace k1:=cell_keep k1 hz
     replace hb:=below_step hb hz hb.size
     clear hz
     go_wp2_with fail
     refine (HCp.out _ hb).mono ?_
     rintro e wn ⟨rfl,hz⟩
     replace k0:=cell_keep k0 hz
     replace k1:=cell_keep k1 hz
     replace hb:=below_step hb hz hb.size
     clear hz
     go_wp2_with fail
     go_meet
     exact ⟨by rw [← H1.out,h1,h2] <;> rfl,hb,k0,k1⟩
 case rest =>
  obtain ⟨rfl,hb,k0,k1⟩:=hcut
  cases x1 with
  | true =>
   go_wp2
   go_ret
   exact ⟨by rw [HW.out];simp,hb⟩
  | false =>
   go_upto_region 3 with fail
   go_cut [22] from 9 (fun v wx=>v = .bool x2∧Below w.heap.size w wx∧wx.cell? ⟨w.heap.size,0,none⟩ = some (.slice A na ca)∧wx.cell? ⟨w.heap.size,1,none⟩ = some (.slice B n cb))
   case first =>
    cases h1 : ([21,22].contains q) with
    | true =>
     cases yn with
     | true =>
      go_wp2_with fail
      refine (tamong_b _ [21,22] 2 _ _ rfl rfl (by decide)).mono ?_
      rw [h1]
      rintro e wn ⟨rfl,hz⟩
      replace k0:=cell_keep k0 hz
      replace k1:=cell_keep k1 hz
      replace hb:=below_step hb hz hb.size
      clear hz
      go_wp2_with fail
      refine (HCn.out _ hb).mono ?_
      rintro e wn ⟨rfl,hz⟩
      replace k0:=cell_keep k0 hz
      replace k1:=cell_keep k1 hz
      replace hb:=below_step hb hz hb.size
      clear hz
      go_wp2_with fail
      go_meet
      exact ⟨by rw [← H2.out,h1] <;> rfl,hb,k0,k1⟩
     | false =>
      go_wp2_with fail
      refine (tamong_b _ [21,22] 2 _ _ rfl rfl (by decide)).mono ?_
      rw [h1]
      rintro e wn ⟨rfl,hz⟩
      replace k0:=cell_keep k0 hz
      replace k1:=cell_keep k1 hz
      replace hb:=below_step hb hz hb.size
      clear hz
      go_wp2_with fail
      refine (HCn.out _ hb).mono ?_
      rintro e wn ⟨rfl,hz⟩
      replace k0:=cell_keep k0 hz
      replace k1:=cell_keep k1 hz
      replace hb:=below_step hb hz hb.size
      clear hz
      go_wp2_with fail
      go_meet
      exact ⟨by rw [← H2.out,h1] <;> rfl,hb,k0,k1⟩
    | false =>
     go_wp2_with fail
     refine (tamong_b _ [21,22] 2 _ _ rfl rfl (by decide)).mono ?_
     rw [h1]
     rintro e wn ⟨rfl,hz⟩
     replace k0:=cell_keep k0 hz
     replace k1:=cell_keep k1 hz
     replace hb:=below_step hb hz hb.size
     clear hz
     go_wp2_with fail
     go_meet
     exact ⟨by rw [← H2.out,h1] <;> rfl,hb,k0,k1⟩
   case rest =>
    obtain ⟨rfl,hb,k0,k1⟩:=hcut
    cases x2 with
    | true =>
     go_wp2
     go_ret
     exact ⟨by rw [HW.out];simp,hb⟩
    | false =>
     go_upto_region 5 with fail
     go_cut [31] from 9 (fun v wx=>v = .bool x3∧Below w.heap.size w wx∧wx.cell? ⟨w.heap.size,0,none⟩ = some (.slice A na ca)∧wx.cell? ⟨w.heap.size,1,none⟩ = some (.slice B n cb))
     case first =>
      rcases HX.out with ⟨hlt,x,hx,blk,off,rfl,kx0⟩ | hlt
      ·have kx:=cell_keep kx0 hb
       have hd : decide (i+1 < c.length) = true:=decide_eq_true (by rw [HL.out];exact hlt)
       have Hd:=Lib.hid (And.intro hd hx)
       have hlt2 : (i : Int)+1 < (n : Int):=by omega
       clear hd hx kx0
       cases h1 : ([21,22].contains b) with
       | true =>
        cases h2 : (q == 20) with
        | true =>
         go_wp2_with fail
         refine (tamong_b _ [21,22] 2 _ _ rfl rfl (by decide)).mono ?_
         rw [h1]
         rintro e wn ⟨rfl,hz⟩
         replace k0:=cell_keep k0 hz
         replace k1:=cell_keep k1 hz
         replace kx:=cell_keep kx hz
         replace hb:=below_step hb hz hb.size
         clear hz
         go_wp2_with fail
         go_meet
         exact ⟨by rw [← H3.out,Hd.out.1,Hd.out.2,h1,h2];rfl,hb,k0,k1⟩
        | false =>
         cases h3 : ([9,16].contains q) with
         | true =>
          cases h4 : (x == 20) with
          | true =>
           go_wp2_with fail
           refine (tamong_b _ [21,22] 2 _ _ rfl rfl (by decide)).mono ?_
           rw [h1]
           rintro e wn ⟨rfl,hz⟩
           replace k0:=cell_keep k0 hz
           replace k1:=cell_keep k1 hz
           replace kx:=cell_keep kx hz
           replace hb:=below_step hb hz hb.size
           clear hz
           go_wp2_with fail
           refine (tamong_b _ [9,16] 2 _ _ rfl rfl (by decide)).mono ?_
           rw [h3]
           rintro e wn ⟨rfl,hz⟩
           replace k0:=cell_keep k0 hz
           replace k1:=cell_keep k1 hz
           replace kx:=cell_keep kx hz
           replace hb:=below_step hb hz hb.size
           clear hz
           go_wp2_with fail
           go_meet
           exact ⟨by rw [← H3.out,Hd.out.1,Hd.out.2,h1,h2,h3,h4];rfl,hb,k0,k1⟩
          | false =>
           go_wp2_with fail
           refine (tamong_b _ [21,22] 2 _ _ rfl rfl (by decide)).mono ?_
           rw [h1]
           rintro e wn ⟨rfl,hz⟩
           replace k0:=cell_keep k0 hz
           replace k1:=cell_keep k1 hz
           replace kx:=cell_keep kx hz
           replace hb:=below_step hb hz hb.size
           clear hz
           go_wp2_with fail
           refine (tamong_b _ [9,16] 2 _ _ rfl rfl (by decide)).mono ?_
           rw [h3]
           rintro e wn ⟨rfl,hz⟩
           replace k0:=cell_keep k0 hz
           replace k1:=cell_keep k1 hz
           replace kx:=cell_keep kx hz
           replace hb:=below_step hb hz hb.size
           clear hz
           go_wp2_with fail
           go_meet
           exact ⟨by rw [← H3.out,Hd.out.1,Hd.out.2,h1,h2,h3,h4];rfl,hb,k0,k1⟩
         | false =>
          go_wp2_with fail
          refine (tamong_b _ [21,22] 2 _ _ rfl rfl (by decide)).mono ?_
          rw [h1]
          rintro e wn ⟨rfl,hz⟩
          replace k0:=cell_keep k0 hz
          replace k1:=cell_keep k1 hz
          replace kx:=cell_keep kx hz
          replace hb:=below_step hb hz hb.size
          clear hz
          go_wp2_with fail
          refine (tamong_b _ [9,16] 2 _ _ rfl rfl (by decide)).mono ?_
          rw [h3]
          rintro e wn ⟨rfl,hz⟩
          replace k0:=cell_keep k0 hz
          replace k1:=cell_keep k1 hz
          replace kx:=cell_keep kx hz
          replace hb:=below_step hb hz hb.size
          clear hz
          go_wp2_with fail
          go_meet
          exact ⟨by rw [← H3.out,Hd.out.1,Hd.out.2,h1,h2,h3];rfl,hb,k0,k1⟩
       | false =>
        go_wp2_with fail
        refine (tamong_b _ [21,22] 2 _ _ rfl rfl (by decide)).mono ?_
        rw [h1]
        rintro e wn ⟨rfl,hz⟩
        replace k0:=cell_keep k0 hz
        replace k1:=cell_keep k1 hz
        replace kx:=cell_keep kx hz
        replace hb:=below_step hb hz hb.size
        clear hz
        go_wp2_with fail
        go_meet
        exact ⟨by rw [← H3.out,Hd.out.1,Hd.out.2,h1];rfl,hb,k0,k1⟩
      ·have Hd : Hid (decide (i+1 < c.length) = false):=Lib.hid (decide_eq_false (by rw [HL.out];exact hlt))
       have hlt2 : ¬ (i : Int)+1 < (n : Int):=by omega
       cases h1 : ([21,22].contains b) with
       | true =>
        cases h2 : (q == 20) with
        | true =>
         go_wp2_with fail
         refine (tamong_b _ [21,22] 2 _ _ rfl rfl (by decide)).mono ?_
         rw [h1]
         rintro e wn ⟨rfl,hz⟩
         replace k0:=cell_keep k0 hz
         replace k1:=cell_keep k1 hz
         replace hb:=below_step hb hz hb.size
         clear hz
         go_wp2_with fail
         go_meet
         exact ⟨by rw [← H3.out,Hd.out,h1,h2];rfl,hb,k0,k1⟩
        | false =>
         cases h3 : ([9,16].contains q) with
         | true =>
          go_wp2_with fail
          refine (tamong_b _ [21,22] 2 _ _ rfl rfl (by decide)).mono ?_
          rw [h1]
          rintro e wn ⟨rfl,hz⟩
          replace k0:=cell_keep k0 hz
          replace k1:=cell_keep k1 hz
          replace hb:=below_step hb hz hb.size
          clear hz
          go_wp2_with fail
          refine (tamong_b _ [9,16] 2 _ _ rfl rfl (by decide)).mono ?_
          rw [h3]
          rintro e wn ⟨rfl,hz⟩
          replace k0:=cell_keep k0 hz
          replace k1:=cell_keep k1 hz
          replace hb:=below_step hb hz hb.size
          clear hz
          go_wp2_with fail
          go_meet
          exact ⟨by rw [← H3.out,Hd.out,h1,h2,h3];rfl,hb,k0,k1⟩
         | false =>
          go_wp2_with fail
          refine (tamong_b _ [21,22] 2 _ _ rfl rfl (by decide)).mono ?_
          rw [h1]
          rintro e wn ⟨rfl,hz⟩
          replace k0:=cell_keep k0 hz
          replace k1:=cell_keep k1 hz
          replace hb:=below_step hb hz hb.size
          clear hz
          go_wp2_with fail
          refine (tamong_b _ [9,16] 2 _ _ rfl rfl (by decide)).mono ?_
          rw [h3]
          rintro e wn ⟨rfl,hz⟩
          replace k0:=cell_keep k0 hz
          replace k1:=cell_keep k1 hz
          replace hb:=below_step hb hz hb.size
          clear hz
          go_wp2_with fail
          go_meet
          exact ⟨by rw [← H3.out,Hd.out,h1,h2,h3];rfl,hb,k0,k1⟩
       | false =>
        go_wp2_with fail
        refine (tamong_b _ [21,22] 2 _ _ rfl rfl (by decide)).mono ?_
        rw [h1]
        rintro e wn ⟨rfl,hz⟩
        replace k0:=cell_keep k0 hz
        replace k1:=cell_keep k1 hz
        replace hb:=below_step hb hz hb.size
        clear hz
        go_wp2_with fail
        go_meet
        exact ⟨by rw [← H3.out,Hd.out,h1];rfl,hb,k0,k1⟩
     case rest =>
      obtain ⟨rfl,hb,k0,k1⟩:=hcut
      cases x3 with
      | true =>
       go_wp2
       go_ret
       exact ⟨by rw [HW.out];simp,hb⟩
      | false =>
       cases h1 : (q == 25) with
       | false =>
        go_wp2
        go_ret
        exact ⟨by rw [HW.out,h1];rfl,hb⟩
       | true =>
        have HV : Hid (lLetters c i b q = ((R1 : Int) % 2 == 1)):=Lib.hid (by
         rw [HW.out,h1]
         simp only [Bool.false_or,Bool.true_and]
         rcases (by omega : R1 % 2 = 0∨R1 % 2 = 1) with h | h
         ·rw [h,show (R1 : Int) % 2 = 0 by omega];rfl
         ·rw [h,show (R1 : Int) % 2 = 1 by omega];rfl)
        go_wp2_with fail
        refine (HCr.out _ hb).mono ?_
        rintro e wn ⟨rfl,hz⟩
        go_wp2
        go_ret
        exact ⟨by rw [HV.out];rfl,below_step hb hz hb.size⟩
end
end Go.Proofs.YtglmcknlnoknoaaGreatDoor
