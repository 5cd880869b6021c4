/- -/
import Derived.Deep.CutRange
import Derived.Deep.RegionHeld3
import Derived.Test.YtglmcknlnoknoaaGreatDoorV0b
namespace Go.Proofs.YtglmcknlnoknoaaGreatDoor
set_option maxRecDepth 100000
set_option maxHeartbeats 40000000
section
open Go.RowKit
theorem tglued_any (A B : Option Addr) (na ca n cb : Nat) (c : List Int) (i : Nat) (p b q : Int) (hp : c[i - 1]? = some p) (w : World) (hB : Rd w 1 B (c.map encZ)) (_hl : c.length = n) (h1i : 1≤i) (hin : i < n) (hn : n≤3000000) :
  Calls Tryz.prog 193 #[.agg #[.slice A na ca,.slice B n cb],.int .i64 i,.int .i64 b,.int .i64 q] w fun e w'=>e = .returned (.bool (lGlued p b q))∧Below w.heap.size w w':=by
 have hBz : Below w.heap.size w (w.alloc (.cells #[.slice A na ca,.slice B n cb] 186)):=(Below.refl _ _).alloc (Nat.le_refl _) _
 have hK:=Blk.new w 186 #[.slice A na ca,.slice B n cb]
 have k0:=hK.cell 0
 have k1:=hK.cell 1
 simp only [zG,zH,zI] at k0 k1
 obtain ⟨x1,H1⟩ : ∃ x,Hid (((q == 8) && (!([1,2,3,4,5].contains p))) = x):=⟨_,Lib.hid rfl⟩
 obtain ⟨x2,H2⟩ : ∃ x,Hid ((q == 6) = x):=⟨_,Lib.hid rfl⟩
 obtain ⟨x3,H3⟩ : ∃ x,Hid ((b == 6) = x):=⟨_,Lib.hid rfl⟩
 obtain ⟨x4,H4⟩ : ∃ x,Hid ((b == 7) = x):=⟨_,Lib.hid rfl⟩
 obtain ⟨x5,H5⟩ : ∃ x,Hid ((((q == 7) && (!([4,17,16].contains b))) || ([11,10,13,14,15].contains q)) = x):=⟨_,Lib.hid rfl⟩
 have HW : Hid (lGlued p b q = ((x1 || x2 || x3 || x4) || x5)):=Lib.hid (by rw [← H1.out,← H2.out,← H3.out,← H4.out,← H5.out];rfl)
 obtain ⟨j,rfl⟩ : ∃ j,i = j+1:=⟨i - 1,by omega⟩
 rw [Nat.add_sub_cancel] at hp
 have e1 : ((j+1 : Nat) : Int) - 1 = (j : Int):=by omega
 obtain ⟨blk,off,rfl,kp⟩:=hB.atZ hp
 replace kp:=cell_keep kp hBz
 have hb:=hBz
 clear hBz hB _hl hK hp
 go_enter Tryz.func193,Tryz.ntmps193
 go_upto_region 1 with fail
 generalize w.alloc (.cells #[.slice A na ca,.slice (some ⟨blk,off,none⟩) n cb] 186) = w1 at hb k0 k1 kp ⊢
 go_cut [9] from 9 (fun v wx=>v = .bool x1∧Below w.heap.size w wx∧wx.cell? ⟨w.heap.size,0,none⟩ = some (.slice A na ca)∧wx.cell? ⟨w.heap.size,1,none⟩ = some (.slice (some ⟨blk,off,none⟩) n cb)∧wx.cell? ⟨blk,off+j,none⟩ = some (.int .i64 p))
 case first =>
  cases h1 : (q == 8) with
  | true =>
   cases h2 : ([1,2,3,4,5].contains p) with
   | true =>
    go_wp2_with fail
    refine (tamong_b _ [1,2,3,4,5] 5 _ _ rfl rfl (by decide)).mono ?_
    rw [h2]
    rintro e wn ⟨rfl,hz⟩
    replace k0:=cell_keep k0 hz
    replace k1:=cell_keep k1 hz
    replace kp:=cell_keep kp hz
    replace hb:=below_step hb hz hb.size
    clear hz
    go_wp2_with fail
    go_meet
    exact ⟨by rw [← H1.out,h1,h2] <;> rfl,hb,k0,k1,kp⟩
   | false =>
    go_wp2_with fail
    refine (tamong_b _ [1,2,3,4,5] 5 _ _ rfl rfl (by decide)).mono ?_
    rw [h2]
    rintro e wn ⟨rfl,hz⟩
    replace k0:=cell_keep k0 hz
    replace k1:=cell_keep k1 hz
    replace kp:=cell_keep kp hz
    replace hb:=below_step hb hz hb.size
    clear hz
    go_wp2_with fail
    go_meet
    exact ⟨by rw [← H1.out,h1,h2] <;> rfl,hb,k0,k1,kp⟩
  | false =>
   go_wp2_with fail
   go_meet
   exact ⟨by rw [← H1.out,h1] <;> rfl,hb,k0,k1,kp⟩
 case rest =>
  obtain ⟨rfl,hb,k0,k1,kp⟩:=hcut
  cases x1 with
  | true =>
   go_wp2
   go_ret
   exact ⟨by rw [HW.out];simp,hb⟩
  | false =>
   go_upto_region 2 with fail
   go_cut [9] from 9 (fun v wx=>v = .bool x2∧Below w.heap.size w wx∧wx.cell? ⟨w.heap.size,0,none⟩ = some (.slice A na ca)∧wx.cell? ⟨w.heap.size,1,none⟩ = some (.slice (some ⟨blk,off,none⟩) n cb)∧wx.cell? ⟨blk,off+j,none⟩ = some (.int .i64 p))
   case first =>
    cases h1 : (q == 6) with
    | true =>
     go_wp2_with fail
     go_meet
     exact ⟨by rw [← H2.out,h1] <;> rfl,hb,k0,k1,kp⟩
    | false =>
     go_wp2_with fail
     go_meet
     exact ⟨by rw [← H2.out,h1] <;> rfl,hb,k0,k1,kp⟩
   case rest =>
    obtain ⟨rfl,hb,k0,k1,kp⟩:=hcut
    cases x2 with
    | true =>
     go_wp2
     go_ret
     exact ⟨by rw [HW.out];simp,hb⟩
    | false =>
     go_upto_region 3 with fail
     go_cut [9] from 9 (fun v wx=>v = .bool x3∧Below w.heap.size w wx∧wx.cell? ⟨w.heap.size,0,none⟩ = some (.slice A na ca)∧wx.cell? ⟨w.heap.size,1,none⟩ = some (.slice (some ⟨blk,off,none⟩) n cb)∧wx.cell? ⟨blk,off+j,none⟩ = some (.int .i64 p))
     case first =>
      cases h1 : (b == 6) with
      | true =>
       go_wp2_with fail
       go_meet
       exact ⟨by rw [← H3.out,h1] <;> rfl,hb,k0,k1,kp⟩
      | false =>
       go_wp2_with fail
       go_meet
       exact ⟨by rw [← H3.out,h1] <;> rfl,hb,k0,k1,kp⟩
     case rest =>
      obtain ⟨rfl,hb,k0,k1,kp⟩:=hcut
      cases x3 with
      | true =>
       go_wp2
       go_ret
       exact ⟨by rw [HW.out];simp,hb⟩
      | false =>
       go_upto_region 4 with fail
       go_cut [9] from 9 (fun v wx=>v = .bool x4∧Below w.heap.size w wx∧wx.cell? ⟨w.heap.size,0,none⟩ = some (.slice A na ca)∧wx.cell? ⟨w.heap.size,1,none⟩ = some (.slice (some ⟨blk,off,none⟩) n cb)∧wx.cell? ⟨blk,off+j,none⟩ = some (.int .i64 p))
       case first =>
        cases h1 : (b == 7) with
        | true =>
         go_wp2_with fail
         go_meet
         exact ⟨by rw [← H4.out,h1] <;> rfl,hb,k0,k1,kp⟩
        | false =>
         go_wp2_with fail
         go_meet
         exact ⟨by rw [← H4.out,h1] <;> rfl,hb,k0,k1,kp⟩
       case rest =>
        obtain ⟨rfl,hb,k0,k1,kp⟩:=hcut
        cases x4 with
        | true =>
         go_wp2
         go_ret
         exact ⟨by rw [HW.out];simp,hb⟩
        | false =>
         cases h1 : (q == 7) with
         | true =>
          cases h2 : ([4,17,16].contains b) with
          | true =>
           cases h3 : ([11,10,13,14,15].contains q) with
           | true =>
            go_wp2_with fail
            refine (tamong_b _ [4,17,16] 3 _ _ rfl rfl (by decide)).mono ?_
            rw [h2]
            rintro e wn ⟨rfl,hz⟩
            replace k0:=cell_keep k0 hz
            replace k1:=cell_keep k1 hz
            replace kp:=cell_keep kp hz
            replace hb:=below_step hb hz hb.size
            clear hz
            go_wp2_with fail
            refine (tamong_b _ [11,10,13,14,15] 5 _ _ rfl rfl (by decide)).mono ?_
            rw [h3]
            rintro e wn ⟨rfl,hz⟩
            replace k0:=cell_keep k0 hz
            replace k1:=cell_keep k1 hz
            replace kp:=cell_keep kp hz
            replace hb:=below_step hb hz hb.size
            clear hz
            go_wp2_with fail
            go_ret
            exact ⟨by rw [HW.out,← H5.out,h1,h2,h3];rfl,hb⟩
           | false =>
            go_wp2_with fail
            refine (tamong_b _ [4,17,16] 3 _ _ rfl rfl (by decide)).mono ?_
            rw [h2]
            rintro e wn ⟨rfl,hz⟩
            replace k0:=cell_keep k0 hz
            replace k1:=cell_keep k1 hz
            replace kp:=cell_keep kp hz
            replace hb:=below_step hb hz hb.size
            clear hz
            go_wp2_with fail
            refine (tamong_b _ [11,10,13,14,15] 5 _ _ rfl rfl (by decide)).mono ?_
            rw [h3]
            rintro e wn ⟨rfl,hz⟩
            replace k0:=cell_keep k0 hz
            replace k1:=cell_keep k1 hz
            replace kp:=cell_keep kp hz
            replace hb:=below_step hb hz hb.size
            clear hz
            go_wp2_with fail
            go_ret
            exact ⟨by rw [HW.out,← H5.out,h1,h2,h3];rfl,hb⟩
          | false =>
           go_wp2_with fail
           refine (tamong_b _ [4,17,16] 3 _ _ rfl rfl (by decide)).mono ?_
           rw [h2]
           rintro e wn ⟨rfl,hz⟩
           replace k0:=cell_keep k0 hz
           replace k1:=cell_keep k1 hz
           replace kp:=cell_keep kp hz
           replace hb:=below_step hb hz hb.size
           clear hz
           go_wp2_with fail
           go_ret
           exact ⟨by rw [HW.out,← H5.out,h1,h2];rfl,hb⟩
         | false =>
          cases h2 : ([11,10,13,14,15].contains q) with
          | true =>
           go_wp2_with fail
           refine (tamong_b _ [11,10,13,14,15] 5 _ _ rfl rfl (by decide)).mono ?_
           rw [h2]
           rintro e wn ⟨rfl,hz⟩
           replace k0:=cell_keep k0 hz
           replace k1:=cell_keep k1 hz
           replace kp:=cell_keep kp hz
           replace hb:=below_step hb hz hb.size
           clear hz
           go_wp2_with fail
           go_ret
           exact ⟨by rw [HW.out,← H5.out,h1,h2];rfl,hb⟩
          | false =>
           go_wp2_with fail
           refine (tamong_b _ [11,10,13,14,15] 5 _ _ rfl rfl (by decide)).mono ?_
           rw [h2]
           rintro e wn ⟨rfl,hz⟩
           replace k0:=cell_keep k0 hz
           replace k1:=cell_keep k1 hz
           replace kp:=cell_keep kp hz
           replace hb:=below_step hb hz hb.size
           clear hz
           go_wp2_with fail
           go_ret
           exact ⟨by rw [HW.out,← H5.out,h1,h2];rfl,hb⟩
end
end Go.Proofs.YtglmcknlnoknoaaGreatDoor
