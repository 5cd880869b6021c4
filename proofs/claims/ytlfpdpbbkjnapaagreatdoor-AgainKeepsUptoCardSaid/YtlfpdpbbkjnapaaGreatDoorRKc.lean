/- -/
import Derived.Deep.CutRange
import Derived.Test.YtlfpdpbbkjnapaaGreatDoorR0b
namespace Go.Proofs.YtlfpdpbbkjnapaaGreatDoor
set_option maxRecDepth 100000
set_option maxHeartbeats 40000000
section
open Go.RowKit
theorem kletters_any (z a q n : Int) (w : World) : Calls Tryz.prog 139 #[.int .i64 z,.int .i64 a,.int .i64 q,.int .i64 n] w fun e w'=>e = .returned (.bool (wLetters z a q n))∧w = w':=by
 obtain ⟨x1,H1⟩ : ∃ x,Hid ((wLet a && wLet q) = x):=⟨_,Lib.hid rfl⟩
 obtain ⟨x2,H2⟩ : ∃ x,Hid ((wLet a && wInW q && wLet n) = x):=⟨_,Lib.hid rfl⟩
 obtain ⟨x3,H3⟩ : ∃ x,Hid ((wLet z && wInW a && wLet q) = x):=⟨_,Lib.hid rfl⟩
 obtain ⟨x4,H4⟩ : ∃ x,Hid (((a == 9) && (q == 11)) = x):=⟨_,Lib.hid rfl⟩
 obtain ⟨x5,H5⟩ : ∃ x,Hid (((a == 9) && (q == 12) && (n == 9)) = x):=⟨_,Lib.hid rfl⟩
 obtain ⟨x6,H6⟩ : ∃ x,Hid (((z == 9) && (a == 12) && (q == 9)) = x):=⟨_,Lib.hid rfl⟩
 obtain ⟨x7,H7⟩ : ∃ x,Hid (((a == 16) && ((q == 16) || wLet q)) = x):=⟨_,Lib.hid rfl⟩
 obtain ⟨x8,H8⟩ : ∃ x,Hid ((wLet a && (q == 16)) = x):=⟨_,Lib.hid rfl⟩
 obtain ⟨x9,H9⟩ : ∃ x,Hid (((z == 16) && wInN a && (q == 16)) = x):=⟨_,Lib.hid rfl⟩
 obtain ⟨x10,H10⟩ : ∃ x,Hid (((a == 16) && wInN q && (n == 16)) = x):=⟨_,Lib.hid rfl⟩
 obtain ⟨x11,H11⟩ : ∃ x,Hid ((((a == 8) && (q == 8)) || ((wJoin a || (a == 17)) && (q == 17)) || ((a == 17) && wJoin q)) = x):=⟨_,Lib.hid rfl⟩
 have HW : Hid (wLetters z a q n = (x1 || x2 || x3 || (x4 || x5 || x6) || (x7 || x8) || (x9 || x10) || x11)):=Lib.hid (by
  rw [← H1.out,← H2.out,← H3.out,← H4.out,← H5.out,← H6.out,← H7.out,← H8.out,← H9.out,← H10.out,← H11.out];rfl)
 go_enter Tryz.func139,Tryz.ntmps139
 go_upto_region 1 with fail
 go_cut [9] from 9 (fun v wx=>v = .bool x1∧w = wx)
 case first =>
  cases h1 : wLet a with
  | true =>
   cases h2 : wLet q with
   | true =>
    go_wp2_with (first | (go_at_call 167;refine (klettered_any _ _).mono ?_;rw [h1];rintro e w' ⟨rfl,rfl⟩) | (go_at_call 167;refine (klettered_any _ _).mono ?_;rw [h2];rintro e w' ⟨rfl,rfl⟩) | fail)
    go_meet
    exact ⟨by rw [← H1.out,h1,h2];rfl,rfl⟩
   | false =>
    go_wp2_with (first | (go_at_call 167;refine (klettered_any _ _).mono ?_;rw [h1];rintro e w' ⟨rfl,rfl⟩) | (go_at_call 167;refine (klettered_any _ _).mono ?_;rw [h2];rintro e w' ⟨rfl,rfl⟩) | fail)
    go_meet
    exact ⟨by rw [← H1.out,h1,h2];rfl,rfl⟩
  | false =>
   go_wp2_with (first | (go_at_call 167;refine (klettered_any _ _).mono ?_;rw [h1];rintro e w' ⟨rfl,rfl⟩) | fail)
   go_meet
   exact ⟨by rw [← H1.out,h1];rfl,rfl⟩
 case rest =>
  obtain ⟨rfl,rfl⟩:=hcut
  cases x1 with
  | true =>
   go_wp2
   go_ret
   exact ⟨by rw [HW.out];simp,rfl⟩
  | false =>
   go_upto_region 2 with fail
   go_cut [9] from 9 (fun v wx=>v = .bool x2∧w = wx)
   case first =>
    cases h1 : wLet a with
    | true =>
     cases h2 : wInW q with
     | true =>
      cases h3 : wLet n with
      | true =>
       go_wp2_with (first | (go_at_call 167;refine (klettered_any _ _).mono ?_;rw [h1];rintro e w' ⟨rfl,rfl⟩) | (go_at_call 168;refine (kinWord_any _ _).mono ?_;rw [h2];rintro e w' ⟨rfl,rfl⟩) | (go_at_call 167;refine (klettered_any _ _).mono ?_;rw [h3];rintro e w' ⟨rfl,rfl⟩) | fail)
       go_meet
       exact ⟨by rw [← H2.out,h1,h2,h3];rfl,rfl⟩
      | false =>
       go_wp2_with (first | (go_at_call 167;refine (klettered_any _ _).mono ?_;rw [h1];rintro e w' ⟨rfl,rfl⟩) | (go_at_call 168;refine (kinWord_any _ _).mono ?_;rw [h2];rintro e w' ⟨rfl,rfl⟩) | (go_at_call 167;refine (klettered_any _ _).mono ?_;rw [h3];rintro e w' ⟨rfl,rfl⟩) | fail)
       go_meet
       exact ⟨by rw [← H2.out,h1,h2,h3];rfl,rfl⟩
     | false =>
      go_wp2_with (first | (go_at_call 167;refine (klettered_any _ _).mono ?_;rw [h1];rintro e w' ⟨rfl,rfl⟩) | (go_at_call 168;refine (kinWord_any _ _).mono ?_;rw [h2];rintro e w' ⟨rfl,rfl⟩) | fail)
      go_meet
      exact ⟨by rw [← H2.out,h1,h2];rfl,rfl⟩
    | false =>
     go_wp2_with (first | (go_at_call 167;refine (klettered_any _ _).mono ?_;rw [h1];rintro e w' ⟨rfl,rfl⟩) | fail)
     go_meet
     exact ⟨by rw [← H2.out,h1];rfl,rfl⟩
   case rest =>
    obtain ⟨rfl,rfl⟩:=hcut
    cases x2 with
    | true =>
     go_wp2
     go_ret
     exact ⟨by rw [HW.out];simp,rfl⟩
    | false =>
     go_upto_region 3 with fail
     go_cut [9] from 9 (fun v wx=>v = .bool x3∧w = wx)
     case first =>
      cases h1 : wLet z with
      | true =>
       cases h2 : wInW a with
       | true =>
        cases h3 : wLet q with
        | true =>
         go_wp2_with (first | (go_at_call 167;refine (klettered_any _ _).mono ?_;rw [h1];rintro e w' ⟨rfl,rfl⟩) | (go_at_call 168;refine (kinWord_any _ _).mono ?_;rw [h2];rintro e w' ⟨rfl,rfl⟩) | (go_at_call 167;refine (klettered_any _ _).mono ?_;rw [h3];rintro e w' ⟨rfl,rfl⟩) | fail)
         go_meet
         exact ⟨by rw [← H3.out,h1,h2,h3];rfl,rfl⟩
        | false =>
         go_wp2_with (first | (go_at_call 167;refine (klettered_any _ _).mono ?_;rw [h1];rintro e w' ⟨rfl,rfl⟩) | (go_at_call 168;refine (kinWord_any _ _).mono ?_;rw [h2];rintro e w' ⟨rfl,rfl⟩) | (go_at_call 167;refine (klettered_any _ _).mono ?_;rw [h3];rintro e w' ⟨rfl,rfl⟩) | fail)
         go_meet
         exact ⟨by rw [← H3.out,h1,h2,h3];rfl,rfl⟩
       | false =>
        go_wp2_with (first | (go_at_call 167;refine (klettered_any _ _).mono ?_;rw [h1];rintro e w' ⟨rfl,rfl⟩) | (go_at_call 168;refine (kinWord_any _ _).mono ?_;rw [h2];rintro e w' ⟨rfl,rfl⟩) | fail)
        go_meet
        exact ⟨by rw [← H3.out,h1,h2];rfl,rfl⟩
      | false =>
       go_wp2_with (first | (go_at_call 167;refine (klettered_any _ _).mono ?_;rw [h1];rintro e w' ⟨rfl,rfl⟩) | fail)
       go_meet
       exact ⟨by rw [← H3.out,h1];rfl,rfl⟩
     case rest =>
      obtain ⟨rfl,rfl⟩:=hcut
      cases x3 with
      | true =>
       go_wp2
       go_ret
       exact ⟨by rw [HW.out];simp,rfl⟩
      | false =>
       go_upto_region 5 with fail
       go_cut [36] from 9 (fun v wx=>v = .bool x4∧w = wx)
       case first =>
        cases h1 : (a == 9) with
        | true =>
         cases h2 : (q == 11) with
         | true =>
          go_wp2_with fail
          go_meet
          exact ⟨by rw [← H4.out,h1,h2];rfl,rfl⟩
         | false =>
          go_wp2_with fail
          go_meet
          exact ⟨by rw [← H4.out,h1,h2];rfl,rfl⟩
        | false =>
         go_wp2_with fail
         go_meet
         exact ⟨by rw [← H4.out,h1];rfl,rfl⟩
       case rest =>
        obtain ⟨rfl,rfl⟩:=hcut
        cases x4 with
        | true =>
         go_wp2
         go_ret
         exact ⟨by rw [HW.out];simp,rfl⟩
        | false =>
         go_upto_region 6 with fail
         go_cut [36] from 9 (fun v wx=>v = .bool x5∧w = wx)
         case first =>
          cases h1 : (a == 9) with
          | true =>
           cases h2 : (q == 12) with
           | true =>
            cases h3 : (n == 9) with
            | true =>
             go_wp2_with fail
             go_meet
             exact ⟨by rw [← H5.out,h1,h2,h3];rfl,rfl⟩
            | false =>
             go_wp2_with fail
             go_meet
             exact ⟨by rw [← H5.out,h1,h2,h3];rfl,rfl⟩
           | false =>
            go_wp2_with fail
            go_meet
            exact ⟨by rw [← H5.out,h1,h2];rfl,rfl⟩
          | false =>
           go_wp2_with fail
           go_meet
           exact ⟨by rw [← H5.out,h1];rfl,rfl⟩
         case rest =>
          obtain ⟨rfl,rfl⟩:=hcut
          cases x5 with
          | true =>
           go_wp2
           go_ret
           exact ⟨by rw [HW.out];simp,rfl⟩
          | false =>
           go_upto_region 7 with fail
           go_cut [36] from 9 (fun v wx=>v = .bool x6∧w = wx)
           case first =>
            cases h1 : (z == 9) with
            | true =>
             cases h2 : (a == 12) with
             | true =>
              cases h3 : (q == 9) with
              | true =>
               go_wp2_with fail
               go_meet
               exact ⟨by rw [← H6.out,h1,h2,h3];rfl,rfl⟩
              | false =>
               go_wp2_with fail
               go_meet
               exact ⟨by rw [← H6.out,h1,h2,h3];rfl,rfl⟩
             | false =>
              go_wp2_with fail
              go_meet
              exact ⟨by rw [← H6.out,h1,h2];rfl,rfl⟩
            | false =>
             go_wp2_with fail
             go_meet
             exact ⟨by rw [← H6.out,h1];rfl,rfl⟩
           case rest =>
            obtain ⟨rfl,rfl⟩:=hcut
            cases x6 with
            | true =>
             go_wp2
             go_ret
             exact ⟨by rw [HW.out];simp,rfl⟩
            | false =>
             go_upto_region 9 with fail
             go_cut [63] from 9 (fun v wx=>v = .bool x7∧w = wx)
             case first =>
              cases h1 : (a == 16) with
              | true =>
               cases h2 : (q == 16) with
               | true =>
                go_wp2_with fail
                go_meet
                exact ⟨by rw [← H7.out,h1,h2];rfl,rfl⟩
               | false =>
                cases h3 : wLet q with
                | true =>
                 go_wp2_with (first | (go_at_call 167;refine (klettered_any _ _).mono ?_;rw [h3];rintro e w' ⟨rfl,rfl⟩) | fail)
                 go_meet
                 exact ⟨by rw [← H7.out,h1,h2,h3];rfl,rfl⟩
                | false =>
                 go_wp2_with (first | (go_at_call 167;refine (klettered_any _ _).mono ?_;rw [h3];rintro e w' ⟨rfl,rfl⟩) | fail)
                 go_meet
                 exact ⟨by rw [← H7.out,h1,h2,h3];rfl,rfl⟩
              | false =>
               go_wp2_with fail
               go_meet
               exact ⟨by rw [← H7.out,h1];rfl,rfl⟩
             case rest =>
              obtain ⟨rfl,rfl⟩:=hcut
              cases x7 with
              | true =>
               go_wp2
               go_ret
               exact ⟨by rw [HW.out];simp,rfl⟩
              | false =>
               go_upto_region 10 with fail
               go_cut [63] from 9 (fun v wx=>v = .bool x8∧w = wx)
               case first =>
                cases h1 : wLet a with
                | true =>
                 cases h2 : (q == 16) with
                 | true =>
                  go_wp2_with (first | (go_at_call 167;refine (klettered_any _ _).mono ?_;rw [h1];rintro e w' ⟨rfl,rfl⟩) | fail)
                  go_meet
                  exact ⟨by rw [← H8.out,h1,h2];rfl,rfl⟩
                 | false =>
                  go_wp2_with (first | (go_at_call 167;refine (klettered_any _ _).mono ?_;rw [h1];rintro e w' ⟨rfl,rfl⟩) | fail)
                  go_meet
                  exact ⟨by rw [← H8.out,h1,h2];rfl,rfl⟩
                | false =>
                 go_wp2_with (first | (go_at_call 167;refine (klettered_any _ _).mono ?_;rw [h1];rintro e w' ⟨rfl,rfl⟩) | fail)
                 go_meet
                 exact ⟨by rw [← H8.out,h1];rfl,rfl⟩
               case rest =>
                obtain ⟨rfl,rfl⟩:=hcut
                cases x8 with
                | true =>
                 go_wp2
                 go_ret
                 exact ⟨by rw [HW.out];simp,rfl⟩
                | false =>
                 go_upto_region 12 with fail
                 go_cut [80] from 9 (fun v wx=>v = .bool x9∧w = wx)
                 case first =>
                  cases h1 : (z == 16) with
                  | true =>
                   cases h2 : wInN a with
                   | true =>
                    cases h3 : (q == 16) with
                    | true =>
                     go_wp2_with (first | (go_at_call 169;refine (kinNumber_any _ _).mono ?_;rw [h2];rintro e w' ⟨rfl,rfl⟩) | fail)
                     go_meet
                     exact ⟨by rw [← H9.out,h1,h2,h3];rfl,rfl⟩
                    | false =>
                     go_wp2_with (first | (go_at_call 169;refine (kinNumber_any _ _).mono ?_;rw [h2];rintro e w' ⟨rfl,rfl⟩) | fail)
                     go_meet
                     exact ⟨by rw [← H9.out,h1,h2,h3];rfl,rfl⟩
                   | false =>
                    go_wp2_with (first | (go_at_call 169;refine (kinNumber_any _ _).mono ?_;rw [h2];rintro e w' ⟨rfl,rfl⟩) | fail)
                    go_meet
                    exact ⟨by rw [← H9.out,h1,h2];rfl,rfl⟩
                  | false =>
                   go_wp2_with fail
                   go_meet
                   exact ⟨by rw [← H9.out,h1];rfl,rfl⟩
                 case rest =>
                  obtain ⟨rfl,rfl⟩:=hcut
                  cases x9 with
                  | true =>
                   go_wp2
                   go_ret
                   exact ⟨by rw [HW.out];simp,rfl⟩
                  | false =>
                   go_upto_region 13 with fail
                   go_cut [80] from 9 (fun v wx=>v = .bool x10∧w = wx)
                   case first =>
                    cases h1 : (a == 16) with
                    | true =>
                     cases h2 : wInN q with
                     | true =>
                      cases h3 : (n == 16) with
                      | true =>
                       go_wp2_with (first | (go_at_call 169;refine (kinNumber_any _ _).mono ?_;rw [h2];rintro e w' ⟨rfl,rfl⟩) | fail)
                       go_meet
                       exact ⟨by rw [← H10.out,h1,h2,h3];rfl,rfl⟩
                      | false =>
                       go_wp2_with (first | (go_at_call 169;refine (kinNumber_any _ _).mono ?_;rw [h2];rintro e w' ⟨rfl,rfl⟩) | fail)
                       go_meet
                       exact ⟨by rw [← H10.out,h1,h2,h3];rfl,rfl⟩
                     | false =>
                      go_wp2_with (first | (go_at_call 169;refine (kinNumber_any _ _).mono ?_;rw [h2];rintro e w' ⟨rfl,rfl⟩) | fail)
                      go_meet
                      exact ⟨by rw [← H10.out,h1,h2];rfl,rfl⟩
                    | false =>
                     go_wp2_with fail
                     go_meet
                     exact ⟨by rw [← H10.out,h1];rfl,rfl⟩
                   case rest =>
                    obtain ⟨rfl,rfl⟩:=hcut
                    cases x10 with
                    | true =>
                     go_wp2
                     go_ret
                     exact ⟨by rw [HW.out];simp,rfl⟩
                    | false =>
                     cases h1 : (a == 8) with
                     | true =>
                      cases h2 : (q == 8) with
                      | true =>
                       go_wp2_with fail
                       go_ret
                       exact ⟨by rw [HW.out,← H11.out];simp [h1,h2],rfl⟩
                      | false =>
                       cases h3 : wJoin a with
                       | true =>
                        cases h4 : (q == 17) with
                        | true =>
                         go_wp2_with (first | (go_at_call 170;refine (kjoined_any _ _).mono ?_;rw [h3];rintro e w' ⟨rfl,rfl⟩) | fail)
                         go_ret
                         exact ⟨by rw [HW.out,← H11.out];simp [h1,h2,h3,h4],rfl⟩
                        | false =>
                         cases h5 : (a == 17) with
                         | true =>
                          cases h6 : wJoin q with
                          | true =>
                           go_wp2_with (first | (go_at_call 170;refine (kjoined_any _ _).mono ?_;rw [h3];rintro e w' ⟨rfl,rfl⟩) | (go_at_call 170;refine (kjoined_any _ _).mono ?_;rw [h6];rintro e w' ⟨rfl,rfl⟩) | fail)
                           go_ret
                           exact ⟨by rw [HW.out,← H11.out];simp [h1,h2,h3,h4,h5,h6],rfl⟩
                          | false =>
                           go_wp2_with (first | (go_at_call 170;refine (kjoined_any _ _).mono ?_;rw [h3];rintro e w' ⟨rfl,rfl⟩) | (go_at_call 170;refine (kjoined_any _ _).mono ?_;rw [h6];rintro e w' ⟨rfl,rfl⟩) | fail)
                           go_ret
                           exact ⟨by rw [HW.out,← H11.out];simp [h1,h2,h3,h4,h5,h6],rfl⟩
                         | false =>
                          go_wp2_with (first | (go_at_call 170;refine (kjoined_any _ _).mono ?_;rw [h3];rintro e w' ⟨rfl,rfl⟩) | fail)
                          go_ret
                          exact ⟨by rw [HW.out,← H11.out];simp [h1,h2,h3,h4,h5],rfl⟩
                       | false =>
                        cases h4 : (a == 17) with
                        | true =>
                         cases h5 : (q == 17) with
                         | true =>
                          go_wp2_with (first | (go_at_call 170;refine (kjoined_any _ _).mono ?_;rw [h3];rintro e w' ⟨rfl,rfl⟩) | fail)
                          go_ret
                          exact ⟨by rw [HW.out,← H11.out];simp [h1,h2,h3,h4,h5],rfl⟩
                         | false =>
                          cases h6 : wJoin q with
                          | true =>
                           go_wp2_with (first | (go_at_call 170;refine (kjoined_any _ _).mono ?_;rw [h3];rintro e w' ⟨rfl,rfl⟩) | (go_at_call 170;refine (kjoined_any _ _).mono ?_;rw [h6];rintro e w' ⟨rfl,rfl⟩) | fail)
                           go_ret
                           exact ⟨by rw [HW.out,← H11.out];simp [h1,h2,h3,h4,h5,h6],rfl⟩
                          | false =>
                           go_wp2_with (first | (go_at_call 170;refine (kjoined_any _ _).mono ?_;rw [h3];rintro e w' ⟨rfl,rfl⟩) | (go_at_call 170;refine (kjoined_any _ _).mono ?_;rw [h6];rintro e w' ⟨rfl,rfl⟩) | fail)
                           go_ret
                           exact ⟨by rw [HW.out,← H11.out];simp [h1,h2,h3,h4,h5,h6],rfl⟩
                        | false =>
                         go_wp2_with (first | (go_at_call 170;refine (kjoined_any _ _).mono ?_;rw [h3];rintro e w' ⟨rfl,rfl⟩) | fail)
                         go_ret
                         exact ⟨by rw [HW.out,← H11.out];simp [h1,h2,h3,h4],rfl⟩
                     | false =>
                      cases h2 : wJoin a with
                      | true =>
                       cases h3 : (q == 17) with
                       | true =>
                        go_wp2_with (first | (go_at_call 170;refine (kjoined_any _ _).mono ?_;rw [h2];rintro e w' ⟨rfl,rfl⟩) | fail)
                        go_ret
                        exact ⟨by rw [HW.out,← H11.out];simp [h1,h2,h3],rfl⟩
                       | false =>
                        cases h4 : (a == 17) with
                        | true =>
                         cases h5 : wJoin q with
                         | true =>
                          go_wp2_with (first | (go_at_call 170;refine (kjoined_any _ _).mono ?_;rw [h2];rintro e w' ⟨rfl,rfl⟩) | (go_at_call 170;refine (kjoined_any _ _).mono ?_;rw [h5];rintro e w' ⟨rfl,rfl⟩) | fail)
                          go_ret
                          exact ⟨by rw [HW.out,← H11.out];simp [h1,h2,h3,h4,h5],rfl⟩
                         | false =>
                          go_wp2_with (first | (go_at_call 170;refine (kjoined_any _ _).mono ?_;rw [h2];rintro e w' ⟨rfl,rfl⟩) | (go_at_call 170;refine (kjoined_any _ _).mono ?_;rw [h5];rintro e w' ⟨rfl,rfl⟩) | fail)
                          go_ret
                          exact ⟨by rw [HW.out,← H11.out];simp [h1,h2,h3,h4,h5],rfl⟩
                        | false =>
                         go_wp2_with (first | (go_at_call 170;refine (kjoined_any _ _).mono ?_;rw [h2];rintro e w' ⟨rfl,rfl⟩) | fail)
                         go_ret
                         exact ⟨by rw [HW.out,← H11.out];simp [h1,h2,h3,h4],rfl⟩
                      | false =>
                       cases h3 : (a == 17) with
                       | true =>
                        cases h4 : (q == 17) with
                        | true =>
                         go_wp2_with (first | (go_at_call 170;refine (kjoined_any _ _).mono ?_;rw [h2];rintro e w' ⟨rfl,rfl⟩) | fail)
                         go_ret
                         exact ⟨by rw [HW.out,← H11.out];simp [h1,h2,h3,h4],rfl⟩
                        | false =>
                         cases h5 : wJoin q with
                         | true =>
                          go_wp2_with (first | (go_at_call 170;refine (kjoined_any _ _).mono ?_;rw [h2];rintro e w' ⟨rfl,rfl⟩) | (go_at_call 170;refine (kjoined_any _ _).mono ?_;rw [h5];rintro e w' ⟨rfl,rfl⟩) | fail)
                          go_ret
                          exact ⟨by rw [HW.out,← H11.out];simp [h1,h2,h3,h4,h5],rfl⟩
                         | false =>
                          go_wp2_with (first | (go_at_call 170;refine (kjoined_any _ _).mono ?_;rw [h2];rintro e w' ⟨rfl,rfl⟩) | (go_at_call 170;refine (kjoined_any _ _).mono ?_;rw [h5];rintro e w' ⟨rfl,rfl⟩) | fail)
                          go_ret
                          exact ⟨by rw [HW.out,← H11.out];simp [h1,h2,h3,h4,h5],rfl⟩
                       | false =>
                        go_wp2_with (first | (go_at_call 170;refine (kjoined_any _ _).mono ?_;rw [h2];rintro e w' ⟨rfl,rfl⟩) | fail)
                        go_ret
                        exact ⟨by rw [HW.out,← H11.out];simp [h1,h2,h3],rfl⟩
end
end Go.Proofs.YtlfpdpbbkjnapaaGreatDoor
