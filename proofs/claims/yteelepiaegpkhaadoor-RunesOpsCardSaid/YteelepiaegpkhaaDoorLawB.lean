/-
  kerflaw02.RunesOps, walked.
-/
import Derived.Test.YteelepiaegpkhaaDoorSl
namespace Go.Proofs.YteelepiaegpkhaaDoor
open Go.RowKit

set_option maxRecDepth 100000 in
set_option maxHeartbeats 1600000 in
theorem kRunesOps_any (A B : Option Addr) (n c m d : Nat) (a b : List (Int × Int)) (w : World) (hT : Tabs w) (hA : Rd w 2 A (a.map encR)) (hB : Rd w 2 B (b.map encR)) (ha : a.length = n) (hb : b.length = m) (hn : n ≤ maxLen) (hm : m ≤ maxLen) :
    Calls Tryd.prog 7 #[.slice A n c, .slice B m d] w fun e w' => e = .returned (.bool true) ∧ RowKit.Below w.heap.size w w' := by
  unfold maxLen at hn hm
  have HB : RowKit.Below w.heap.size w w := RowKit.Below.refl _ _
  by_cases h1 : 1500 < n
  · clear hA hB ha hb
    go_enter Tryd.func7, Tryd.ntmps7
    have hT2 := hT.below HB
    go_wp2_with fail
    refine (klive_any _ hT2).mono ?_
    rintro e wz ⟨rfl, hb⟩
    replace HB := below_two HB hb
    go_wp2
    go_ret
    exact ⟨rfl, HB⟩
  · by_cases h2 : 1500 < m
    · clear hA hB ha hb
      go_enter Tryd.func7, Tryd.ntmps7
      have hT2 := hT.below HB
      go_wp2_with fail
      refine (klive_any _ hT2).mono ?_
      rintro e wz ⟨rfl, hb⟩
      replace HB := below_two HB hb
      go_wp2
      go_ret
      exact ⟨rfl, HB⟩
    · have hn' : n ≤ 1500 := by omega
      have hm' : m ≤ 1500 := by omega
      have ka : Sl w A n a := ⟨hA, ha, by omega⟩
      have kb : Sl w B m b := ⟨hB, hb, by omega⟩
      clear hA hB ha hb h1 h2
      go_enter Tryd.func7, Tryd.ntmps7
      go_wp2_with fail
      refine (slOwn ka).mono ?_
      rintro e w1 ⟨g1, c1, rfl, kx, hb, hg1⟩
      clear hg1
      replace ka := ka.below hb
      replace kb := kb.below hb
      replace HB := below_two HB hb
      clear hb
      go_wp2_with fail
      refine (slOwn kb).mono ?_
      rintro e w2 ⟨g2, c2, rfl, ky, hb, hg2⟩
      clear hg2
      replace ka := ka.below hb
      replace kb := kb.below hb
      replace kx := kx.below hb
      replace HB := below_two HB hb
      clear hb
      go_wp2_with fail
      refine (slrOr kx.sl ky.sl).mono ?_
      rintro e w3 ⟨A3, n3, c3, rfl, p, hb⟩
      replace ka := ka.below hb
      replace kb := kb.below hb
      replace kx := kx.below hb
      replace ky := ky.below hb
      replace HB := below_two HB hb
      clear hb
      go_wp2_with fail
      refine (slsOr ka kb).mono ?_
      rintro e w4 ⟨A4, n4, c4, rfl, q, hb⟩
      replace ka := ka.below hb
      replace kb := kb.below hb
      replace kx := kx.below hb
      replace ky := ky.below hb
      replace p := p.below hb
      replace HB := below_two HB hb
      clear hb
      go_wp2_with fail
      refine (slSame p q rfl).mono ?_
      rintro e w5 ⟨rfl, hb⟩
      replace ka := ka.below hb
      replace kb := kb.below hb
      replace kx := kx.below hb
      replace ky := ky.below hb
      replace p := p.below hb
      replace q := q.below hb
      replace HB := below_two HB hb
      clear hb
      clear p q
      go_wp2_with fail
      refine (slrAnd kx.sl ky.sl).mono ?_
      rintro e w6 ⟨A6, n6, c6, rfl, p, hb⟩
      replace ka := ka.below hb
      replace kb := kb.below hb
      replace kx := kx.below hb
      replace ky := ky.below hb
      replace HB := below_two HB hb
      clear hb
      go_wp2_with fail
      refine (slsAnd ka kb).mono ?_
      rintro e w7 ⟨A7, n7, c7, rfl, q, hb⟩
      replace ka := ka.below hb
      replace kb := kb.below hb
      replace kx := kx.below hb
      replace ky := ky.below hb
      replace p := p.below hb
      replace HB := below_two HB hb
      clear hb
      go_wp2_with fail
      refine (slSame p q rfl).mono ?_
      rintro e w8 ⟨rfl, hb⟩
      replace ka := ka.below hb
      replace kb := kb.below hb
      replace kx := kx.below hb
      replace ky := ky.below hb
      replace p := p.below hb
      replace q := q.below hb
      replace HB := below_two HB hb
      clear hb
      clear p q
      go_wp2_with fail
      refine (slrMinus kx.sl ky.sl).mono ?_
      rintro e w9 ⟨A9, n9, c9, rfl, p, hb⟩
      replace ka := ka.below hb
      replace kb := kb.below hb
      replace kx := kx.below hb
      replace ky := ky.below hb
      replace HB := below_two HB hb
      clear hb
      go_wp2_with fail
      refine (slsMinus ka kb).mono ?_
      rintro e w10 ⟨A10, n10, c10, rfl, q, hb⟩
      replace ka := ka.below hb
      replace kb := kb.below hb
      replace kx := kx.below hb
      replace ky := ky.below hb
      replace p := p.below hb
      replace HB := below_two HB hb
      clear hb
      go_wp2_with fail
      refine (slSame p q rfl).mono ?_
      rintro e w11 ⟨rfl, hb⟩
      replace ka := ka.below hb
      replace kb := kb.below hb
      replace kx := kx.below hb
      replace ky := ky.below hb
      replace p := p.below hb
      replace q := q.below hb
      replace HB := below_two HB hb
      clear hb
      clear p q
      go_wp2_with fail
      refine (slrNot kx.sl).mono ?_
      rintro e w12 ⟨A12, n12, c12, rfl, p, hb⟩
      replace ka := ka.below hb
      replace kb := kb.below hb
      replace kx := kx.below hb
      replace ky := ky.below hb
      replace HB := below_two HB hb
      clear hb
      go_wp2_with fail
      refine (slsNot ka).mono ?_
      rintro e w13 ⟨A13, n13, c13, rfl, q, hb⟩
      replace ka := ka.below hb
      replace kb := kb.below hb
      replace kx := kx.below hb
      replace ky := ky.below hb
      replace p := p.below hb
      replace HB := below_two HB hb
      clear hb
      go_wp2_with fail
      refine (slSame p q rfl).mono ?_
      rintro e w14 ⟨rfl, hb⟩
      replace ka := ka.below hb
      replace kb := kb.below hb
      replace kx := kx.below hb
      replace ky := ky.below hb
      replace p := p.below hb
      replace q := q.below hb
      replace HB := below_two HB hb
      clear hb
      clear p q
      go_wp2_with fail
      refine (slKept kx ka).mono ?_
      rintro e w15 ⟨rfl, hb⟩
      replace ka := ka.below hb
      replace kb := kb.below hb
      replace kx := kx.below hb
      replace ky := ky.below hb
      replace HB := below_two HB hb
      clear hb
      go_wp2_with fail
      refine (slKept ky kb).mono ?_
      rintro e w16 ⟨rfl, hb⟩
      replace ka := ka.below hb
      replace kb := kb.below hb
      replace kx := kx.below hb
      replace ky := ky.below hb
      replace HB := below_two HB hb
      clear hb
      have hT2 := hT.below HB
      go_wp2_with fail
      refine (klive_any _ hT2).mono ?_
      rintro e wz ⟨rfl, hb⟩
      replace HB := below_two HB hb
      go_wp2
      go_ret
      exact ⟨rfl, HB⟩
end Go.Proofs.YteelepiaegpkhaaDoor
