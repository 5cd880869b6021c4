/-
  kerflaw02.RunesCounts, walked.
-/
import Derived.Test.YteelepiaegpkhaaDoorSl
import Derived.Test.YteelepiaegpkhaaDoorAlg
namespace Go.Proofs.YteelepiaegpkhaaDoor
open Go.RowKit

set_option maxRecDepth 100000 in
set_option maxHeartbeats 1600000 in
theorem kRunesCounts_any (A B : Option Addr) (n c m d : Nat) (a b : List (Int × Int)) (i r : Int) (w : World) (hT : Tabs w) (hA : Rd w 2 A (a.map encR)) (hB : Rd w 2 B (b.map encR)) (ha : a.length = n) (hb : b.length = m) (hn : n ≤ maxLen) (hm : m ≤ maxLen) (hi : i ≤ 9223372036854775807) :
    Calls Tryd.prog 10 #[.slice A n c, .slice B m d, .int .i64 i, .int .i32 r] w fun e w' => e = .returned (.bool true) ∧ RowKit.Below w.heap.size w w' := by
  unfold maxLen at hn hm
  have HB : RowKit.Below w.heap.size w w := RowKit.Below.refl _ _
  by_cases h1 : 1500 < n
  · clear hA hB ha hb
    go_enter Tryd.func10, Tryd.ntmps10
    have hT2 := hT.below HB
    go_wp2_with fail
    refine (klive_any _ hT2).mono ?_
    rintro e wz ⟨rfl, hb⟩
    replace HB := below_two HB hb
    go_wp2
    go_ret
    exact ⟨rfl, HB⟩
  · by_cases h2 : 1500 < m
    · clear hA hB ha hb
      go_enter Tryd.func10, Tryd.ntmps10
      have hT2 := hT.below HB
      go_wp2_with fail
      refine (klive_any _ hT2).mono ?_
      rintro e wz ⟨rfl, hb⟩
      replace HB := below_two HB hb
      go_wp2
      go_ret
      exact ⟨rfl, HB⟩
    · have hn' : n ≤ 1500 := by omega
      have hm' : m ≤ 1500 := by omega
      have ka : Sl w A n a := ⟨hA, ha, by omega⟩
      have kb : Sl w B m b := ⟨hB, hb, by omega⟩
      clear hA hB ha hb h1 h2
      have b1 : 0 ≤ countR (orR a b) ∧ countR (orR a b) ≤ 1114112 := (normR_NF _).cnt
      have b2 : 0 ≤ countR (andR a b) ∧ countR (andR a b) ≤ 1114112 := (normR_NF _).cnt
      have b3 : 0 ≤ countR a ∧ countR a ≤ 1114112 := (normR_NF _).cnt
      have b4 : 0 ≤ countR b ∧ countR b ≤ 1114112 := (normR_NF _).cnt
      have hsum : ((countR (orR a b) + countR (andR a b)) == (countR a + countR b)) = true := beq_iff_eq.2 (count_or_and a b)
      obtain ⟨⟨x, ok⟩, hat⟩ : ∃ q, atR a i = q := ⟨_, rfl⟩
      obtain ⟨⟨k, there⟩, hix⟩ : ∃ q, ixR a r = q := ⟨_, rfl⟩
      have Hat := Lib.hid hat
      have Hix := Lib.hid hix
      clear hat hix
      cases ok with
      | false =>
        cases there with
        | false =>
          go_enter Tryd.func10, Tryd.ntmps10
          go_wp2_with fail
          refine (slrAt i hi ka).mono ?_
          rintro e w1 ⟨rfl, hb⟩
          rw [Hat.out]
          replace ka := ka.below hb
          replace kb := kb.below hb
          replace HB := below_two HB hb
          clear hb
          go_wp2_with fail
          refine (slsAt i hi ka).mono ?_
          rintro e w2 ⟨rfl, hb⟩
          rw [Hat.out]
          replace ka := ka.below hb
          replace kb := kb.below hb
          replace HB := below_two HB hb
          clear hb
          go_wp2_with fail
          refine (slrIndex r ka).mono ?_
          rintro e w3 ⟨rfl, hb⟩
          rw [Hix.out]
          replace ka := ka.below hb
          replace kb := kb.below hb
          replace HB := below_two HB hb
          clear hb
          go_wp2_with fail
          refine (slsIndex r ka).mono ?_
          rintro e w4 ⟨rfl, hb⟩
          rw [Hix.out]
          replace ka := ka.below hb
          replace kb := kb.below hb
          replace HB := below_two HB hb
          clear hb
          go_wp2_with fail
          refine (slrCount ka).mono ?_
          rintro e w5 ⟨rfl, hb⟩
          replace ka := ka.below hb
          replace kb := kb.below hb
          replace HB := below_two HB hb
          clear hb
          go_wp2_with fail
          refine (slsCount ka).mono ?_
          rintro e w6 ⟨rfl, hb⟩
          replace ka := ka.below hb
          replace kb := kb.below hb
          replace HB := below_two HB hb
          clear hb
          go_wp2_with fail
          refine (slrOr ka kb).mono ?_
          rintro e w7 ⟨A7, n7, c7, rfl, p, hb⟩
          replace ka := ka.below hb
          replace kb := kb.below hb
          replace HB := below_two HB hb
          clear hb
          go_wp2_with fail
          refine (slrCount p).mono ?_
          rintro e w8 ⟨rfl, hb⟩
          replace ka := ka.below hb
          replace kb := kb.below hb
          replace p := p.below hb
          replace HB := below_two HB hb
          clear hb
          go_wp2_with fail
          refine (slrAnd ka kb).mono ?_
          rintro e w9 ⟨A9, n9, c9, rfl, q, hb⟩
          replace ka := ka.below hb
          replace kb := kb.below hb
          replace p := p.below hb
          replace HB := below_two HB hb
          clear hb
          go_wp2_with fail
          refine (slrCount q).mono ?_
          rintro e w10 ⟨rfl, hb⟩
          replace ka := ka.below hb
          replace kb := kb.below hb
          replace p := p.below hb
          replace q := q.below hb
          replace HB := below_two HB hb
          clear hb
          go_wp2_with fail
          refine (slrCount ka).mono ?_
          rintro e w11 ⟨rfl, hb⟩
          replace ka := ka.below hb
          replace kb := kb.below hb
          replace p := p.below hb
          replace q := q.below hb
          replace HB := below_two HB hb
          clear hb
          go_wp2_with fail
          refine (slrCount kb).mono ?_
          rintro e w12 ⟨rfl, hb⟩
          replace ka := ka.below hb
          replace kb := kb.below hb
          replace p := p.below hb
          replace q := q.below hb
          replace HB := below_two HB hb
          clear hb
          have hT2 := hT.below HB
          go_wp2_with fail
          refine (klive_any _ hT2).mono ?_
          rintro e wz ⟨rfl, hb⟩
          replace HB := below_two HB hb
          go_wp2
          go_ret
          exact ⟨rfl, HB⟩
        | true =>
          obtain ⟨hia, hk0, hk1⟩ := ixR_atR Hix.out
          have Hix2 := Lib.hid hia
          clear hia
          go_enter Tryd.func10, Tryd.ntmps10
          go_wp2_with fail
          refine (slrAt i hi ka).mono ?_
          rintro e w1 ⟨rfl, hb⟩
          rw [Hat.out]
          replace ka := ka.below hb
          replace kb := kb.below hb
          replace HB := below_two HB hb
          clear hb
          go_wp2_with fail
          refine (slsAt i hi ka).mono ?_
          rintro e w2 ⟨rfl, hb⟩
          rw [Hat.out]
          replace ka := ka.below hb
          replace kb := kb.below hb
          replace HB := below_two HB hb
          clear hb
          go_wp2_with fail
          refine (slrIndex r ka).mono ?_
          rintro e w3 ⟨rfl, hb⟩
          rw [Hix.out]
          replace ka := ka.below hb
          replace kb := kb.below hb
          replace HB := below_two HB hb
          clear hb
          go_wp2_with fail
          refine (slsIndex r ka).mono ?_
          rintro e w4 ⟨rfl, hb⟩
          rw [Hix.out]
          replace ka := ka.below hb
          replace kb := kb.below hb
          replace HB := below_two HB hb
          clear hb
          go_wp2_with fail
          refine (slrCount ka).mono ?_
          rintro e w5 ⟨rfl, hb⟩
          replace ka := ka.below hb
          replace kb := kb.below hb
          replace HB := below_two HB hb
          clear hb
          go_wp2_with fail
          refine (slsCount ka).mono ?_
          rintro e w6 ⟨rfl, hb⟩
          replace ka := ka.below hb
          replace kb := kb.below hb
          replace HB := below_two HB hb
          clear hb
          go_wp2_with fail
          refine (slrAt k (by omega) ka).mono ?_
          rintro e w7 ⟨rfl, hb⟩
          rw [Hix2.out]
          replace ka := ka.below hb
          replace kb := kb.below hb
          replace HB := below_two HB hb
          clear hb
          go_wp2_with fail
          refine (slrOr ka kb).mono ?_
          rintro e w8 ⟨A8, n8, c8, rfl, p, hb⟩
          replace ka := ka.below hb
          replace kb := kb.below hb
          replace HB := below_two HB hb
          clear hb
          go_wp2_with fail
          refine (slrCount p).mono ?_
          rintro e w9 ⟨rfl, hb⟩
          replace ka := ka.below hb
          replace kb := kb.below hb
          replace p := p.below hb
          replace HB := below_two HB hb
          clear hb
          go_wp2_with fail
          refine (slrAnd ka kb).mono ?_
          rintro e w10 ⟨A10, n10, c10, rfl, q, hb⟩
          replace ka := ka.below hb
          replace kb := kb.below hb
          replace p := p.below hb
          replace HB := below_two HB hb
          clear hb
          go_wp2_with fail
          refine (slrCount q).mono ?_
          rintro e w11 ⟨rfl, hb⟩
          replace ka := ka.below hb
          replace kb := kb.below hb
          replace p := p.below hb
          replace q := q.below hb
          replace HB := below_two HB hb
          clear hb
          go_wp2_with fail
          refine (slrCount ka).mono ?_
          rintro e w12 ⟨rfl, hb⟩
          replace ka := ka.below hb
          replace kb := kb.below hb
          replace p := p.below hb
          replace q := q.below hb
          replace HB := below_two HB hb
          clear hb
          go_wp2_with fail
          refine (slrCount kb).mono ?_
          rintro e w13 ⟨rfl, hb⟩
          replace ka := ka.below hb
          replace kb := kb.below hb
          replace p := p.below hb
          replace q := q.below hb
          replace HB := below_two HB hb
          clear hb
          have hT2 := hT.below HB
          go_wp2_with fail
          refine (klive_any _ hT2).mono ?_
          rintro e wz ⟨rfl, hb⟩
          replace HB := below_two HB hb
          go_wp2
          go_ret
          exact ⟨rfl, HB⟩
      | true =>
        cases there with
        | false =>
          have Hat2 := Lib.hid (atR_ixR Hat.out)
          go_enter Tryd.func10, Tryd.ntmps10
          go_wp2_with fail
          refine (slrAt i hi ka).mono ?_
          rintro e w1 ⟨rfl, hb⟩
          rw [Hat.out]
          replace ka := ka.below hb
          replace kb := kb.below hb
          replace HB := below_two HB hb
          clear hb
          go_wp2_with fail
          refine (slsAt i hi ka).mono ?_
          rintro e w2 ⟨rfl, hb⟩
          rw [Hat.out]
          replace ka := ka.below hb
          replace kb := kb.below hb
          replace HB := below_two HB hb
          clear hb
          go_wp2_with fail
          refine (slrIndex r ka).mono ?_
          rintro e w3 ⟨rfl, hb⟩
          rw [Hix.out]
          replace ka := ka.below hb
          replace kb := kb.below hb
          replace HB := below_two HB hb
          clear hb
          go_wp2_with fail
          refine (slsIndex r ka).mono ?_
          rintro e w4 ⟨rfl, hb⟩
          rw [Hix.out]
          replace ka := ka.below hb
          replace kb := kb.below hb
          replace HB := below_two HB hb
          clear hb
          go_wp2_with fail
          refine (slrCount ka).mono ?_
          rintro e w5 ⟨rfl, hb⟩
          replace ka := ka.below hb
          replace kb := kb.below hb
          replace HB := below_two HB hb
          clear hb
          go_wp2_with fail
          refine (slsCount ka).mono ?_
          rintro e w6 ⟨rfl, hb⟩
          replace ka := ka.below hb
          replace kb := kb.below hb
          replace HB := below_two HB hb
          clear hb
          go_wp2_with fail
          refine (slrIndex x ka).mono ?_
          rintro e w7 ⟨rfl, hb⟩
          rw [Hat2.out]
          replace ka := ka.below hb
          replace kb := kb.below hb
          replace HB := below_two HB hb
          clear hb
          go_wp2_with fail
          refine (slrOr ka kb).mono ?_
          rintro e w8 ⟨A8, n8, c8, rfl, p, hb⟩
          replace ka := ka.below hb
          replace kb := kb.below hb
          replace HB := below_two HB hb
          clear hb
          go_wp2_with fail
          refine (slrCount p).mono ?_
          rintro e w9 ⟨rfl, hb⟩
          replace ka := ka.below hb
          replace kb := kb.below hb
          replace p := p.below hb
          replace HB := below_two HB hb
          clear hb
          go_wp2_with fail
          refine (slrAnd ka kb).mono ?_
          rintro e w10 ⟨A10, n10, c10, rfl, q, hb⟩
          replace ka := ka.below hb
          replace kb := kb.below hb
          replace p := p.below hb
          replace HB := below_two HB hb
          clear hb
          go_wp2_with fail
          refine (slrCount q).mono ?_
          rintro e w11 ⟨rfl, hb⟩
          replace ka := ka.below hb
          replace kb := kb.below hb
          replace p := p.below hb
          replace q := q.below hb
          replace HB := below_two HB hb
          clear hb
          go_wp2_with fail
          refine (slrCount ka).mono ?_
          rintro e w12 ⟨rfl, hb⟩
          replace ka := ka.below hb
          replace kb := kb.below hb
          replace p := p.below hb
          replace q := q.below hb
          replace HB := below_two HB hb
          clear hb
          go_wp2_with fail
          refine (slrCount kb).mono ?_
          rintro e w13 ⟨rfl, hb⟩
          replace ka := ka.below hb
          replace kb := kb.below hb
          replace p := p.below hb
          replace q := q.below hb
          replace HB := below_two HB hb
          clear hb
          have hT2 := hT.below HB
          go_wp2_with fail
          refine (klive_any _ hT2).mono ?_
          rintro e wz ⟨rfl, hb⟩
          replace HB := below_two HB hb
          go_wp2
          go_ret
          exact ⟨rfl, HB⟩
        | true =>
          have Hat2 := Lib.hid (atR_ixR Hat.out)
          obtain ⟨hia, hk0, hk1⟩ := ixR_atR Hix.out
          have Hix2 := Lib.hid hia
          clear hia
          go_enter Tryd.func10, Tryd.ntmps10
          go_wp2_with fail
          refine (slrAt i hi ka).mono ?_
          rintro e w1 ⟨rfl, hb⟩
          rw [Hat.out]
          replace ka := ka.below hb
          replace kb := kb.below hb
          replace HB := below_two HB hb
          clear hb
          go_wp2_with fail
          refine (slsAt i hi ka).mono ?_
          rintro e w2 ⟨rfl, hb⟩
          rw [Hat.out]
          replace ka := ka.below hb
          replace kb := kb.below hb
          replace HB := below_two HB hb
          clear hb
          go_wp2_with fail
          refine (slrIndex r ka).mono ?_
          rintro e w3 ⟨rfl, hb⟩
          rw [Hix.out]
          replace ka := ka.below hb
          replace kb := kb.below hb
          replace HB := below_two HB hb
          clear hb
          go_wp2_with fail
          refine (slsIndex r ka).mono ?_
          rintro e w4 ⟨rfl, hb⟩
          rw [Hix.out]
          replace ka := ka.below hb
          replace kb := kb.below hb
          replace HB := below_two HB hb
          clear hb
          go_wp2_with fail
          refine (slrCount ka).mono ?_
          rintro e w5 ⟨rfl, hb⟩
          replace ka := ka.below hb
          replace kb := kb.below hb
          replace HB := below_two HB hb
          clear hb
          go_wp2_with fail
          refine (slsCount ka).mono ?_
          rintro e w6 ⟨rfl, hb⟩
          replace ka := ka.below hb
          replace kb := kb.below hb
          replace HB := below_two HB hb
          clear hb
          go_wp2_with fail
          refine (slrIndex x ka).mono ?_
          rintro e w7 ⟨rfl, hb⟩
          rw [Hat2.out]
          replace ka := ka.below hb
          replace kb := kb.below hb
          replace HB := below_two HB hb
          clear hb
          go_wp2_with fail
          refine (slrAt k (by omega) ka).mono ?_
          rintro e w8 ⟨rfl, hb⟩
          rw [Hix2.out]
          replace ka := ka.below hb
          replace kb := kb.below hb
          replace HB := below_two HB hb
          clear hb
          go_wp2_with fail
          refine (slrOr ka kb).mono ?_
          rintro e w9 ⟨A9, n9, c9, rfl, p, hb⟩
          replace ka := ka.below hb
          replace kb := kb.below hb
          replace HB := below_two HB hb
          clear hb
          go_wp2_with fail
          refine (slrCount p).mono ?_
          rintro e w10 ⟨rfl, hb⟩
          replace ka := ka.below hb
          replace kb := kb.below hb
          replace p := p.below hb
          replace HB := below_two HB hb
          clear hb
          go_wp2_with fail
          refine (slrAnd ka kb).mono ?_
          rintro e w11 ⟨A11, n11, c11, rfl, q, hb⟩
          replace ka := ka.below hb
          replace kb := kb.below hb
          replace p := p.below hb
          replace HB := below_two HB hb
          clear hb
          go_wp2_with fail
          refine (slrCount q).mono ?_
          rintro e w12 ⟨rfl, hb⟩
          replace ka := ka.below hb
          replace kb := kb.below hb
          replace p := p.below hb
          replace q := q.below hb
          replace HB := below_two HB hb
          clear hb
          go_wp2_with fail
          refine (slrCount ka).mono ?_
          rintro e w13 ⟨rfl, hb⟩
          replace ka := ka.below hb
          replace kb := kb.below hb
          replace p := p.below hb
          replace q := q.below hb
          replace HB := below_two HB hb
          clear hb
          go_wp2_with fail
          refine (slrCount kb).mono ?_
          rintro e w14 ⟨rfl, hb⟩
          replace ka := ka.below hb
          replace kb := kb.below hb
          replace p := p.below hb
          replace q := q.below hb
          replace HB := below_two HB hb
          clear hb
          have hT2 := hT.below HB
          go_wp2_with fail
          refine (klive_any _ hT2).mono ?_
          rintro e wz ⟨rfl, hb⟩
          replace HB := below_two HB hb
          go_wp2
          go_ret
          exact ⟨rfl, HB⟩
end Go.Proofs.YteelepiaegpkhaaDoor
