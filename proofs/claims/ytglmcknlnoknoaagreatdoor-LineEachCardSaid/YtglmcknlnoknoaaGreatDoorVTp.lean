/- -/
import Derived.Deep.CutRange
import Derived.Test.YtglmcknlnoknoaaGreatDoorV0b
namespace Go.Proofs.YtglmcknlnoknoaaGreatDoor
set_option maxRecDepth 100000
set_option maxHeartbeats 40000000
section
open Go.RowKit
theorem tpairs_any (b q : Int) (w : World) : Calls Tryz.prog 241 #[.int .i64 b,.int .i64 q] w fun e w'=>e = .returned (.bool (lPairs b q))∧Below w.heap.size w w':=by
 obtain ⟨x1,H1⟩ : ∃ x,Hid (((b == 0) && ([20,22,21,0,9].contains q)) = x):=⟨_,Lib.hid rfl⟩
 obtain ⟨x2,H2⟩ : ∃ x,Hid (((b == 20) && ([0,9,20].contains q)) = x):=⟨_,Lib.hid rfl⟩
 obtain ⟨x3,H3⟩ : ∃ x,Hid (((b == 22) && ([23,0].contains q)) = x):=⟨_,Lib.hid rfl⟩
 obtain ⟨x4,H4⟩ : ∃ x,Hid (((b == 23) && (q == 21)) = x):=⟨_,Lib.hid rfl⟩
 obtain ⟨x5,H5⟩ : ∃ x,Hid (((b == 21) && (q == 0)) = x):=⟨_,Lib.hid rfl⟩
 obtain ⟨x6,H6⟩ : ∃ x,Hid ((([16,14,15].contains b) && (q == 20)) = x):=⟨_,Lib.hid rfl⟩
 obtain ⟨x7,H7⟩ : ∃ x,Hid (((b == 14) && (q == 0)) = x):=⟨_,Lib.hid rfl⟩
 obtain ⟨x8,H8⟩ : ∃ x,Hid (((b == 10) && ([0,20].contains q)) = x):=⟨_,Lib.hid rfl⟩
 have HW : Hid (lPairs b q = ((x1 || x2 || x3) || (x4 || x5 || x6 || x7) || x8)):=Lib.hid (by
  rw [← H1.out,← H2.out,← H3.out,← H4.out,← H5.out,← H6.out,← H7.out,← H8.out];rfl)
 have hb:=Below.refl w.heap.size w
 go_enter Tryz.func241,Tryz.ntmps241
 go_upto_region 1 with fail
 go_cut [5] from 5 (fun v wx=>v = .bool x1∧Below w.heap.size w wx)
 case first =>
  cases h1 : (b == 0) with
  | true =>
   cases h2 : ([20,22,21,0,9].contains q) with
   | true =>
    go_wp2_with fail
    refine (tamong_b _ [20,22,21,0,9] 5 _ _ rfl rfl (by decide)).mono ?_
    rw [h2]
    rintro e wn ⟨rfl,hz⟩
    replace hb:=below_step hb hz hb.size
    clear hz
    go_wp2_with fail
    go_meet
    exact ⟨by rw [← H1.out,h1,h2];rfl,hb⟩
   | false =>
    go_wp2_with fail
    refine (tamong_b _ [20,22,21,0,9] 5 _ _ rfl rfl (by decide)).mono ?_
    rw [h2]
    rintro e wn ⟨rfl,hz⟩
    replace hb:=below_step hb hz hb.size
    clear hz
    go_wp2_with fail
    go_meet
    exact ⟨by rw [← H1.out,h1,h2];rfl,hb⟩
  | false =>
   go_wp2_with fail
   go_meet
   exact ⟨by rw [← H1.out,h1];rfl,hb⟩
 case rest =>
  obtain ⟨rfl,hb⟩:=hcut
  cases x1 with
  | true =>
   go_wp2
   go_ret
   exact ⟨by rw [HW.out];simp,hb⟩
  | false =>
   go_upto_region 2 with fail
   go_cut [5] from 5 (fun v wx=>v = .bool x2∧Below w.heap.size w wx)
   case first =>
    cases h1 : (b == 20) with
    | true =>
     cases h2 : ([0,9,20].contains q) with
     | true =>
      go_wp2_with fail
      refine (tamong_b _ [0,9,20] 3 _ _ rfl rfl (by decide)).mono ?_
      rw [h2]
      rintro e wn ⟨rfl,hz⟩
      replace hb:=below_step hb hz hb.size
      clear hz
      go_wp2_with fail
      go_meet
      exact ⟨by rw [← H2.out,h1,h2];rfl,hb⟩
     | false =>
      go_wp2_with fail
      refine (tamong_b _ [0,9,20] 3 _ _ rfl rfl (by decide)).mono ?_
      rw [h2]
      rintro e wn ⟨rfl,hz⟩
      replace hb:=below_step hb hz hb.size
      clear hz
      go_wp2_with fail
      go_meet
      exact ⟨by rw [← H2.out,h1,h2];rfl,hb⟩
    | false =>
     go_wp2_with fail
     go_meet
     exact ⟨by rw [← H2.out,h1];rfl,hb⟩
   case rest =>
    obtain ⟨rfl,hb⟩:=hcut
    cases x2 with
    | true =>
     go_wp2
     go_ret
     exact ⟨by rw [HW.out];simp,hb⟩
    | false =>
     go_upto_region 3 with fail
     go_cut [5] from 5 (fun v wx=>v = .bool x3∧Below w.heap.size w wx)
     case first =>
      cases h1 : (b == 22) with
      | true =>
       cases h2 : ([23,0].contains q) with
       | true =>
        go_wp2_with fail
        refine (tamong_b _ [23,0] 2 _ _ rfl rfl (by decide)).mono ?_
        rw [h2]
        rintro e wn ⟨rfl,hz⟩
        replace hb:=below_step hb hz hb.size
        clear hz
        go_wp2_with fail
        go_meet
        exact ⟨by rw [← H3.out,h1,h2];rfl,hb⟩
       | false =>
        go_wp2_with fail
        refine (tamong_b _ [23,0] 2 _ _ rfl rfl (by decide)).mono ?_
        rw [h2]
        rintro e wn ⟨rfl,hz⟩
        replace hb:=below_step hb hz hb.size
        clear hz
        go_wp2_with fail
        go_meet
        exact ⟨by rw [← H3.out,h1,h2];rfl,hb⟩
      | false =>
       go_wp2_with fail
       go_meet
       exact ⟨by rw [← H3.out,h1];rfl,hb⟩
     case rest =>
      obtain ⟨rfl,hb⟩:=hcut
      cases x3 with
      | true =>
       go_wp2
       go_ret
       exact ⟨by rw [HW.out];simp,hb⟩
      | false =>
       go_upto_region 5 with fail
       go_cut [27] from 5 (fun v wx=>v = .bool x4∧Below w.heap.size w wx)
       case first =>
        cases h1 : (b == 23) with
        | true =>
         cases h2 : (q == 21) with
         | true =>
          go_wp2_with fail
          go_meet
          exact ⟨by rw [← H4.out,h1,h2];rfl,hb⟩
         | false =>
          go_wp2_with fail
          go_meet
          exact ⟨by rw [← H4.out,h1,h2];rfl,hb⟩
        | false =>
         go_wp2_with fail
         go_meet
         exact ⟨by rw [← H4.out,h1];rfl,hb⟩
       case rest =>
        obtain ⟨rfl,hb⟩:=hcut
        cases x4 with
        | true =>
         go_wp2
         go_ret
         exact ⟨by rw [HW.out];simp,hb⟩
        | false =>
         go_upto_region 6 with fail
         go_cut [27] from 5 (fun v wx=>v = .bool x5∧Below w.heap.size w wx)
         case first =>
          cases h1 : (b == 21) with
          | true =>
           cases h2 : (q == 0) with
           | true =>
            go_wp2_with fail
            go_meet
            exact ⟨by rw [← H5.out,h1,h2];rfl,hb⟩
           | false =>
            go_wp2_with fail
            go_meet
            exact ⟨by rw [← H5.out,h1,h2];rfl,hb⟩
          | false =>
           go_wp2_with fail
           go_meet
           exact ⟨by rw [← H5.out,h1];rfl,hb⟩
         case rest =>
          obtain ⟨rfl,hb⟩:=hcut
          cases x5 with
          | true =>
           go_wp2
           go_ret
           exact ⟨by rw [HW.out];simp,hb⟩
          | false =>
           go_upto_region 7 with fail
           go_cut [27] from 5 (fun v wx=>v = .bool x6∧Below w.heap.size w wx)
           case first =>
            cases h1 : ([16,14,15].contains b) with
            | true =>
             cases h2 : (q == 20) with
             | true =>
              go_wp2_with fail
              refine (tamong_b _ [16,14,15] 3 _ _ rfl rfl (by decide)).mono ?_
              rw [h1]
              rintro e wn ⟨rfl,hz⟩
              replace hb:=below_step hb hz hb.size
              clear hz
              go_wp2_with fail
              go_meet
              exact ⟨by rw [← H6.out,h1,h2];rfl,hb⟩
             | false =>
              go_wp2_with fail
              refine (tamong_b _ [16,14,15] 3 _ _ rfl rfl (by decide)).mono ?_
              rw [h1]
              rintro e wn ⟨rfl,hz⟩
              replace hb:=below_step hb hz hb.size
              clear hz
              go_wp2_with fail
              go_meet
              exact ⟨by rw [← H6.out,h1,h2];rfl,hb⟩
            | false =>
             go_wp2_with fail
             refine (tamong_b _ [16,14,15] 3 _ _ rfl rfl (by decide)).mono ?_
             rw [h1]
             rintro e wn ⟨rfl,hz⟩
             replace hb:=below_step hb hz hb.size
             clear hz
             go_wp2_with fail
             go_meet
             exact ⟨by rw [← H6.out,h1];rfl,hb⟩
           case rest =>
            obtain ⟨rfl,hb⟩:=hcut
            cases x6 with
            | true =>
             go_wp2
             go_ret
             exact ⟨by rw [HW.out];simp,hb⟩
            | false =>
             go_upto_region 8 with fail
             go_cut [27] from 5 (fun v wx=>v = .bool x7∧Below w.heap.size w wx)
             case first =>
              cases h1 : (b == 14) with
              | true =>
               cases h2 : (q == 0) with
               | true =>
                go_wp2_with fail
                go_meet
                exact ⟨by rw [← H7.out,h1,h2];rfl,hb⟩
               | false =>
                go_wp2_with fail
                go_meet
                exact ⟨by rw [← H7.out,h1,h2];rfl,hb⟩
              | false =>
               go_wp2_with fail
               go_meet
               exact ⟨by rw [← H7.out,h1];rfl,hb⟩
             case rest =>
              obtain ⟨rfl,hb⟩:=hcut
              cases x7 with
              | true =>
               go_wp2
               go_ret
               exact ⟨by rw [HW.out];simp,hb⟩
              | false =>
               cases h1 : (b == 10) with
               | true =>
                cases h2 : ([0,20].contains q) with
                | true =>
                 go_wp2_with fail
                 refine (tamong_b _ [0,20] 2 _ _ rfl rfl (by decide)).mono ?_
                 rw [h2]
                 rintro e wn ⟨rfl,hz⟩
                 replace hb:=below_step hb hz hb.size
                 clear hz
                 go_wp2_with fail
                 go_ret
                 exact ⟨by rw [HW.out,← H8.out,h1,h2];rfl,hb⟩
                | false =>
                 go_wp2_with fail
                 refine (tamong_b _ [0,20] 2 _ _ rfl rfl (by decide)).mono ?_
                 rw [h2]
                 rintro e wn ⟨rfl,hz⟩
                 replace hb:=below_step hb hz hb.size
                 clear hz
                 go_wp2_with fail
                 go_ret
                 exact ⟨by rw [HW.out,← H8.out,h1,h2];rfl,hb⟩
               | false =>
                go_wp2_with fail
                go_ret
                exact ⟨by rw [HW.out,← H8.out,h1];rfl,hb⟩
end
end Go.Proofs.YtglmcknlnoknoaaGreatDoor
