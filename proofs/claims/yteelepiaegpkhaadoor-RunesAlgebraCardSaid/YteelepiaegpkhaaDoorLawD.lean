/-
  kerflaw02.RunesAlgebra, walked.
-/
import Derived.Test.YteelepiaegpkhaaDoorLawE
namespace Go.Proofs.YteelepiaegpkhaaDoor
open Go.RowKit

set_option maxRecDepth 100000 in
set_option maxHeartbeats 4000000 in
theorem kRunesAlgebra_any (A B C Q : Option Addr) (n c1 m c2 k c3 h c4 : Nat) (a b c : List (Int × Int)) (q : List Int) (w : World) (hT : Tabs w) (hA : Rd w 2 A (a.map encR)) (hB : Rd w 2 B (b.map encR)) (hC : Rd w 2 C (c.map encR)) (hQ : Rd w 1 Q (q.map fun r => [.int .i32 r]))
    (ha : a.length = n) (hb : b.length = m) (hc : c.length = k) (hq : q.length = h) (hn : n ≤ 17592186044416) (hm : m ≤ 17592186044416) (hk : k ≤ 17592186044416) (hh : h ≤ maxLen) :
    Calls Tryd.prog 9 #[.slice A n c1, .slice B m c2, .slice C k c3, .slice Q h c4] w fun e w' => e = .returned (.bool true) ∧ RowKit.Below w.heap.size w w' := by
  unfold maxLen at hh
  have HB : RowKit.Below w.heap.size w w := RowKit.Below.refl _ _
  by_cases h1 : 1500 < n + m + k
  · clear hA hB hC hQ ha hb hc hq
    go_enter Tryd.func9, Tryd.ntmps9
    have hT2 := hT.below HB
    go_wp2_with fail
    refine (klive_any _ hT2).mono ?_
    rintro e wz ⟨rfl, hb⟩
    replace HB := below_two HB hb
    go_wp2
    go_ret
    exact ⟨rfl, HB⟩
  · by_cases h2 : 500 < h
    · clear hA hB hC hQ ha hb hc hq
      go_enter Tryd.func9, Tryd.ntmps9
      have hT2 := hT.below HB
      go_wp2_with fail
      refine (klive_any _ hT2).mono ?_
      rintro e wz ⟨rfl, hb⟩
      replace HB := below_two HB hb
      go_wp2
      go_ret
      exact ⟨rfl, HB⟩
    · have hn' : n + m + k ≤ 1500 := by omega
      have hm' : h ≤ 500 := by omega
      have ka : Sl w A n a := ⟨hA, ha, by omega⟩
      have kb : Sl w B m b := ⟨hB, hb, by omega⟩
      have kc : Sl w C k c := ⟨hC, hc, by omega⟩
      have kq : Sq w Q h q := ⟨hQ, hq⟩
      clear hA hB hC hQ ha hb hc hq h1 h2
      have I1 : Hid (decide (orR a b = normR (orR a b)) = true) := Lib.hid (decide_eq_true (normR_of_NF (orR_NF a b)).symm)
      have I2 : Hid (decide (andR a b = normR (andR a b)) = true) := Lib.hid (decide_eq_true (normR_of_NF (andR_NF a b)).symm)
      have I3 : Hid (decide (minusR a b = normR (minusR a b)) = true) := Lib.hid (decide_eq_true (normR_of_NF (minusR_NF a b)).symm)
      have I4 : Hid (decide (notR a = normR (notR a)) = true) := Lib.hid (decide_eq_true (normR_of_NF (notR_NF a)).symm)
      go_enter Tryd.func9, Tryd.ntmps9
      go_wp2_with fail
      refine (slrNorm ka).mono ?_
      rintro e w1 ⟨A1, n1, c1, rfl, kn, hb⟩
      replace ka := ka.below hb
      replace kb := kb.below hb
      replace kc := kc.below hb
      replace kq := kq.below hb
      replace HB := below_two HB hb
      clear hb
      go_wp2_with fail
      refine (slrNot (Sl.nil_ _)).mono ?_
      rintro e w2 ⟨A2, n2, c2, rfl, kall, hb⟩
      replace ka := ka.below hb
      replace kb := kb.below hb
      replace kc := kc.below hb
      replace kq := kq.below hb
      replace kn := kn.below hb
      replace HB := below_two HB hb
      clear hb
      go_wp2_with fail
      refine (slrNot ka).mono ?_
      rintro e w3 ⟨A3, n3, c3, rfl, p, hb⟩
      replace ka := ka.below hb
      replace kb := kb.below hb
      replace kc := kc.below hb
      replace kq := kq.below hb
      replace kn := kn.below hb
      replace kall := kall.below hb
      replace HB := below_two HB hb
      clear hb
      go_wp2_with fail
      refine (slrNot p).mono ?_
      rintro e w4 ⟨A4, n4, c4, rfl, q, hb⟩
      replace ka := ka.below hb
      replace kb := kb.below hb
      replace kc := kc.below hb
      replace kq := kq.below hb
      replace kn := kn.below hb
      replace kall := kall.below hb
      replace p := p.below hb
      replace HB := below_two HB hb
      clear hb
      go_wp2_with fail
      refine (slSame q kn (not_not_R a)).mono ?_
      rintro e w5 ⟨rfl, hb⟩
      replace ka := ka.below hb
      replace kb := kb.below hb
      replace kc := kc.below hb
      replace kq := kq.below hb
      replace kn := kn.below hb
      replace kall := kall.below hb
      replace p := p.below hb
      replace q := q.below hb
      replace HB := below_two HB hb
      clear hb
      clear p q
      go_wp2_with fail
      refine (slrOr ka ka).mono ?_
      rintro e w6 ⟨A6, n6, c6, rfl, p, hb⟩
      replace ka := ka.below hb
      replace kb := kb.below hb
      replace kc := kc.below hb
      replace kq := kq.below hb
      replace kn := kn.below hb
      replace kall := kall.below hb
      replace HB := below_two HB hb
      clear hb
      go_wp2_with fail
      refine (slSame p kn (or_self_R a)).mono ?_
      rintro e w7 ⟨rfl, hb⟩
      replace ka := ka.below hb
      replace kb := kb.below hb
      replace kc := kc.below hb
      replace kq := kq.below hb
      replace kn := kn.below hb
      replace kall := kall.below hb
      replace p := p.below hb
      replace HB := below_two HB hb
      clear hb
      clear p
      go_wp2_with fail
      refine (slrAnd ka ka).mono ?_
      rintro e w8 ⟨A8, n8, c8, rfl, p, hb⟩
      replace ka := ka.below hb
      replace kb := kb.below hb
      replace kc := kc.below hb
      replace kq := kq.below hb
      replace kn := kn.below hb
      replace kall := kall.below hb
      replace HB := below_two HB hb
      clear hb
      go_wp2_with fail
      refine (slSame p kn (and_self_R a)).mono ?_
      rintro e w9 ⟨rfl, hb⟩
      replace ka := ka.below hb
      replace kb := kb.below hb
      replace kc := kc.below hb
      replace kq := kq.below hb
      replace kn := kn.below hb
      replace kall := kall.below hb
      replace p := p.below hb
      replace HB := below_two HB hb
      clear hb
      clear p
      go_wp2_with fail
      refine (slrNot ka).mono ?_
      rintro e w10 ⟨A10, n10, c10, rfl, p, hb⟩
      replace ka := ka.below hb
      replace kb := kb.below hb
      replace kc := kc.below hb
      replace kq := kq.below hb
      replace kn := kn.below hb
      replace kall := kall.below hb
      replace HB := below_two HB hb
      clear hb
      go_wp2_with fail
      refine (slrAnd ka p).mono ?_
      rintro e w11 ⟨A11, n11, c11, rfl, q2, hb⟩
      replace ka := ka.below hb
      replace kb := kb.below hb
      replace kc := kc.below hb
      replace kq := kq.below hb
      replace kn := kn.below hb
      replace kall := kall.below hb
      replace p := p.below hb
      replace HB := below_two HB hb
      clear hb
      obtain rfl : n11 = 0 := by have := q2.len; rw [and_not_R] at this; simpa using this.symm
      clear p q2
      go_wp2_with fail
      refine (slrNot ka).mono ?_
      rintro e w12 ⟨A12, n12, c12, rfl, p, hb⟩
      replace ka := ka.below hb
      replace kb := kb.below hb
      replace kc := kc.below hb
      replace kq := kq.below hb
      replace kn := kn.below hb
      replace kall := kall.below hb
      replace HB := below_two HB hb
      clear hb
      go_wp2_with fail
      refine (slrOr ka p).mono ?_
      rintro e w13 ⟨A13, n13, c13, rfl, q2, hb⟩
      replace ka := ka.below hb
      replace kb := kb.below hb
      replace kc := kc.below hb
      replace kq := kq.below hb
      replace kn := kn.below hb
      replace kall := kall.below hb
      replace p := p.below hb
      replace HB := below_two HB hb
      clear hb
      go_wp2_with fail
      refine (slSame q2 kall (or_not_R a)).mono ?_
      rintro e w14 ⟨rfl, hb⟩
      replace ka := ka.below hb
      replace kb := kb.below hb
      replace kc := kc.below hb
      replace kq := kq.below hb
      replace kn := kn.below hb
      replace kall := kall.below hb
      replace p := p.below hb
      replace q2 := q2.below hb
      replace HB := below_two HB hb
      clear hb
      clear p q2
      go_wp2_with fail
      refine (slrAnd ka kall).mono ?_
      rintro e w15 ⟨A15, n15, c15, rfl, p, hb⟩
      replace ka := ka.below hb
      replace kb := kb.below hb
      replace kc := kc.below hb
      replace kq := kq.below hb
      replace kn := kn.below hb
      replace kall := kall.below hb
      replace HB := below_two HB hb
      clear hb
      go_wp2_with fail
      refine (slSame p kn (and_all_R a)).mono ?_
      rintro e w16 ⟨rfl, hb⟩
      replace ka := ka.below hb
      replace kb := kb.below hb
      replace kc := kc.below hb
      replace kq := kq.below hb
      replace kn := kn.below hb
      replace kall := kall.below hb
      replace p := p.below hb
      replace HB := below_two HB hb
      clear hb
      clear p
      clear kall
      go_wp2_with fail
      refine (slrOr ka kb).mono ?_
      rintro e w17 ⟨A17, n17, c17, rfl, p, hb⟩
      replace ka := ka.below hb
      replace kb := kb.below hb
      replace kc := kc.below hb
      replace kq := kq.below hb
      replace kn := kn.below hb
      replace HB := below_two HB hb
      clear hb
      go_wp2_with fail
      refine (slrOr kb ka).mono ?_
      rintro e w18 ⟨A18, n18, c18, rfl, q2, hb⟩
      replace ka := ka.below hb
      replace kb := kb.below hb
      replace kc := kc.below hb
      replace kq := kq.below hb
      replace kn := kn.below hb
      replace p := p.below hb
      replace HB := below_two HB hb
      clear hb
      go_wp2_with fail
      refine (slSame p q2 (or_comm_R a b)).mono ?_
      rintro e w19 ⟨rfl, hb⟩
      replace ka := ka.below hb
      replace kb := kb.below hb
      replace kc := kc.below hb
      replace kq := kq.below hb
      replace kn := kn.below hb
      replace p := p.below hb
      replace q2 := q2.below hb
      replace HB := below_two HB hb
      clear hb
      clear p q2
      go_wp2_with fail
      refine (slrAnd ka kb).mono ?_
      rintro e w20 ⟨A20, n20, c20, rfl, p, hb⟩
      replace ka := ka.below hb
      replace kb := kb.below hb
      replace kc := kc.below hb
      replace kq := kq.below hb
      replace kn := kn.below hb
      replace HB := below_two HB hb
      clear hb
      go_wp2_with fail
      refine (slrAnd kb ka).mono ?_
      rintro e w21 ⟨A21, n21, c21, rfl, q2, hb⟩
      replace ka := ka.below hb
      replace kb := kb.below hb
      replace kc := kc.below hb
      replace kq := kq.below hb
      replace kn := kn.below hb
      replace p := p.below hb
      replace HB := below_two HB hb
      clear hb
      go_wp2_with fail
      refine (slSame p q2 (and_comm_R a b)).mono ?_
      rintro e w22 ⟨rfl, hb⟩
      replace ka := ka.below hb
      replace kb := kb.below hb
      replace kc := kc.below hb
      replace kq := kq.below hb
      replace kn := kn.below hb
      replace p := p.below hb
      replace q2 := q2.below hb
      replace HB := below_two HB hb
      clear hb
      clear p q2
      go_wp2_with fail
      refine (slrMinus ka kb).mono ?_
      rintro e w23 ⟨A23, n23, c23, rfl, p, hb⟩
      replace ka := ka.below hb
      replace kb := kb.below hb
      replace kc := kc.below hb
      replace kq := kq.below hb
      replace kn := kn.below hb
      replace HB := below_two HB hb
      clear hb
      go_wp2_with fail
      refine (slrNot kb).mono ?_
      rintro e w24 ⟨A24, n24, c24, rfl, q1, hb⟩
      replace ka := ka.below hb
      replace kb := kb.below hb
      replace kc := kc.below hb
      replace kq := kq.below hb
      replace kn := kn.below hb
      replace p := p.below hb
      replace HB := below_two HB hb
      clear hb
      go_wp2_with fail
      refine (slrAnd ka q1).mono ?_
      rintro e w25 ⟨A25, n25, c25, rfl, q2, hb⟩
      replace ka := ka.below hb
      replace kb := kb.below hb
      replace kc := kc.below hb
      replace kq := kq.below hb
      replace kn := kn.below hb
      replace p := p.below hb
      replace q1 := q1.below hb
      replace HB := below_two HB hb
      clear hb
      go_wp2_with fail
      refine (slSame p q2 rfl).mono ?_
      rintro e w26 ⟨rfl, hb⟩
      replace ka := ka.below hb
      replace kb := kb.below hb
      replace kc := kc.below hb
      replace kq := kq.below hb
      replace kn := kn.below hb
      replace p := p.below hb
      replace q1 := q1.below hb
      replace q2 := q2.below hb
      replace HB := below_two HB hb
      clear hb
      clear p q1 q2
      go_wp2_with fail
      refine (slrOr ka kb).mono ?_
      rintro e w27 ⟨A27, n27, c27, rfl, p, hb⟩
      replace ka := ka.below hb
      replace kb := kb.below hb
      replace kc := kc.below hb
      replace kq := kq.below hb
      replace kn := kn.below hb
      replace HB := below_two HB hb
      clear hb
      go_wp2_with fail
      refine (slrNot p).mono ?_
      rintro e w28 ⟨A28, n28, c28, rfl, p2, hb⟩
      replace ka := ka.below hb
      replace kb := kb.below hb
      replace kc := kc.below hb
      replace kq := kq.below hb
      replace kn := kn.below hb
      replace p := p.below hb
      replace HB := below_two HB hb
      clear hb
      go_wp2_with fail
      refine (slrNot ka).mono ?_
      rintro e w29 ⟨A29, n29, c29, rfl, q1, hb⟩
      replace ka := ka.below hb
      replace kb := kb.below hb
      replace kc := kc.below hb
      replace kq := kq.below hb
      replace kn := kn.below hb
      replace p := p.below hb
      replace p2 := p2.below hb
      replace HB := below_two HB hb
      clear hb
      go_wp2_with fail
      refine (slrNot kb).mono ?_
      rintro e w30 ⟨A30, n30, c30, rfl, q2, hb⟩
      replace ka := ka.below hb
      replace kb := kb.below hb
      replace kc := kc.below hb
      replace kq := kq.below hb
      replace kn := kn.below hb
      replace p := p.below hb
      replace p2 := p2.below hb
      replace q1 := q1.below hb
      replace HB := below_two HB hb
      clear hb
      go_wp2_with fail
      refine (slrAnd q1 q2).mono ?_
      rintro e w31 ⟨A31, n31, c31, rfl, q3, hb⟩
      replace ka := ka.below hb
      replace kb := kb.below hb
      replace kc := kc.below hb
      replace kq := kq.below hb
      replace kn := kn.below hb
      replace p := p.below hb
      replace p2 := p2.below hb
      replace q1 := q1.below hb
      replace q2 := q2.below hb
      replace HB := below_two HB hb
      clear hb
      go_wp2_with fail
      refine (slSame p2 q3 (not_or_R a b)).mono ?_
      rintro e w32 ⟨rfl, hb⟩
      replace ka := ka.below hb
      replace kb := kb.below hb
      replace kc := kc.below hb
      replace kq := kq.below hb
      replace kn := kn.below hb
      replace p := p.below hb
      replace p2 := p2.below hb
      replace q1 := q1.below hb
      replace q2 := q2.below hb
      replace q3 := q3.below hb
      replace HB := below_two HB hb
      clear hb
      clear p p2 q1 q2 q3
      go_wp2_with fail
      refine (slrAnd ka kb).mono ?_
      rintro e w33 ⟨A33, n33, c33, rfl, p, hb⟩
      replace ka := ka.below hb
      replace kb := kb.below hb
      replace kc := kc.below hb
      replace kq := kq.below hb
      replace kn := kn.below hb
      replace HB := below_two HB hb
      clear hb
      go_wp2_with fail
      refine (slrOr ka p).mono ?_
      rintro e w34 ⟨A34, n34, c34, rfl, q2, hb⟩
      replace ka := ka.below hb
      replace kb := kb.below hb
      replace kc := kc.below hb
      replace kq := kq.below hb
      replace kn := kn.below hb
      replace p := p.below hb
      replace HB := below_two HB hb
      clear hb
      go_wp2_with fail
      refine (slSame q2 kn (or_and_R a b)).mono ?_
      rintro e w35 ⟨rfl, hb⟩
      replace ka := ka.below hb
      replace kb := kb.below hb
      replace kc := kc.below hb
      replace kq := kq.below hb
      replace kn := kn.below hb
      replace p := p.below hb
      replace q2 := q2.below hb
      replace HB := below_two HB hb
      clear hb
      clear p q2
      clear kn
      go_wp2_with fail
      refine (slrOr kb kc).mono ?_
      rintro e w36 ⟨A36, n36, c36, rfl, p, hb⟩
      replace ka := ka.below hb
      replace kb := kb.below hb
      replace kc := kc.below hb
      replace kq := kq.below hb
      replace HB := below_two HB hb
      clear hb
      go_wp2_with fail
      refine (slrAnd ka p).mono ?_
      rintro e w37 ⟨A37, n37, c37, rfl, p2, hb⟩
      replace ka := ka.below hb
      replace kb := kb.below hb
      replace kc := kc.below hb
      replace kq := kq.below hb
      replace p := p.below hb
      replace HB := below_two HB hb
      clear hb
      go_wp2_with fail
      refine (slrAnd ka kb).mono ?_
      rintro e w38 ⟨A38, n38, c38, rfl, q1, hb⟩
      replace ka := ka.below hb
      replace kb := kb.below hb
      replace kc := kc.below hb
      replace kq := kq.below hb
      replace p := p.below hb
      replace p2 := p2.below hb
      replace HB := below_two HB hb
      clear hb
      go_wp2_with fail
      refine (slrAnd ka kc).mono ?_
      rintro e w39 ⟨A39, n39, c39, rfl, q2, hb⟩
      replace ka := ka.below hb
      replace kb := kb.below hb
      replace kc := kc.below hb
      replace kq := kq.below hb
      replace p := p.below hb
      replace p2 := p2.below hb
      replace q1 := q1.below hb
      replace HB := below_two HB hb
      clear hb
      go_wp2_with fail
      refine (slrOr q1 q2).mono ?_
      rintro e w40 ⟨A40, n40, c40, rfl, q3, hb⟩
      replace ka := ka.below hb
      replace kb := kb.below hb
      replace kc := kc.below hb
      replace kq := kq.below hb
      replace p := p.below hb
      replace p2 := p2.below hb
      replace q1 := q1.below hb
      replace q2 := q2.below hb
      replace HB := below_two HB hb
      clear hb
      go_wp2_with fail
      refine (slSame p2 q3 (and_or_R a b c)).mono ?_
      rintro e w41 ⟨rfl, hb⟩
      replace ka := ka.below hb
      replace kb := kb.below hb
      replace kc := kc.below hb
      replace kq := kq.below hb
      replace p := p.below hb
      replace p2 := p2.below hb
      replace q1 := q1.below hb
      replace q2 := q2.below hb
      replace q3 := q3.below hb
      replace HB := below_two HB hb
      clear hb
      clear p p2 q1 q2 q3
      go_wp2_with fail
      refine (slrOr kb kc).mono ?_
      rintro e w42 ⟨A42, n42, c42, rfl, p, hb⟩
      replace ka := ka.below hb
      replace kb := kb.below hb
      replace kc := kc.below hb
      replace kq := kq.below hb
      replace HB := below_two HB hb
      clear hb
      go_wp2_with fail
      refine (slrOr ka p).mono ?_
      rintro e w43 ⟨A43, n43, c43, rfl, p2, hb⟩
      replace ka := ka.below hb
      replace kb := kb.below hb
      replace kc := kc.below hb
      replace kq := kq.below hb
      replace p := p.below hb
      replace HB := below_two HB hb
      clear hb
      go_wp2_with fail
      refine (slrOr ka kb).mono ?_
      rintro e w44 ⟨A44, n44, c44, rfl, q1, hb⟩
      replace ka := ka.below hb
      replace kb := kb.below hb
      replace kc := kc.below hb
      replace kq := kq.below hb
      replace p := p.below hb
      replace p2 := p2.below hb
      replace HB := below_two HB hb
      clear hb
      go_wp2_with fail
      refine (slrOr q1 kc).mono ?_
      rintro e w45 ⟨A45, n45, c45, rfl, q3, hb⟩
      replace ka := ka.below hb
      replace kb := kb.below hb
      replace kc := kc.below hb
      replace kq := kq.below hb
      replace p := p.below hb
      replace p2 := p2.below hb
      replace q1 := q1.below hb
      replace HB := below_two HB hb
      clear hb
      go_wp2_with fail
      refine (slSame p2 q3 (or_assoc_R a b c)).mono ?_
      rintro e w46 ⟨rfl, hb⟩
      replace ka := ka.below hb
      replace kb := kb.below hb
      replace kc := kc.below hb
      replace kq := kq.below hb
      replace p := p.below hb
      replace p2 := p2.below hb
      replace q1 := q1.below hb
      replace q3 := q3.below hb
      replace HB := below_two HB hb
      clear hb
      clear p p2 q1 q3
      clear kc
      go_wp2_with fail
      refine (slrOr ka kb).mono ?_
      rintro e w47 ⟨A47, n47, c47, rfl, kor, hb⟩
      replace ka := ka.below hb
      replace kb := kb.below hb
      replace kq := kq.below hb
      replace HB := below_two HB hb
      clear hb
      go_wp2_with fail
      refine (slrAnd ka kb).mono ?_
      rintro e w48 ⟨A48, n48, c48, rfl, kand, hb⟩
      replace ka := ka.below hb
      replace kb := kb.below hb
      replace kq := kq.below hb
      replace kor := kor.below hb
      replace HB := below_two HB hb
      clear hb
      go_wp2_with fail
      refine (slrMinus ka kb).mono ?_
      rintro e w49 ⟨A49, n49, c49, rfl, kmin, hb⟩
      replace ka := ka.below hb
      replace kb := kb.below hb
      replace kq := kq.below hb
      replace kor := kor.below hb
      replace kand := kand.below hb
      replace HB := below_two HB hb
      clear hb
      go_wp2_with fail
      refine (slrNot ka).mono ?_
      rintro e w50 ⟨A50, n50, c50, rfl, knot, hb⟩
      replace ka := ka.below hb
      replace kb := kb.below hb
      replace kq := kq.below hb
      replace kor := kor.below hb
      replace kand := kand.below hb
      replace kmin := kmin.below hb
      replace HB := below_two HB hb
      clear hb
      go_wp2_with fail
      go_loopw [15] (fun i wr => ∃ j : Nat, j ≤ h ∧ i = .int .i64 j ∧ RowKit.Below w50.heap.size w50 wr) (fun i _ => h - (intOf i).toNat)
      case atStart => exact ⟨0, by omega, rfl, RowKit.Below.refl _ _⟩
      case round =>
        obtain ⟨j, hj, rfl, hbr⟩ := hrel
        have HB0 := HB
        replace ka := ka.below hbr
        replace kb := kb.below hbr
        replace kq := kq.below hbr
        replace kor := kor.below hbr
        replace kand := kand.below hbr
        replace kmin := kmin.below hbr
        replace knot := knot.below hbr
        replace HB := below_two HB hbr
        by_cases hlt : j < h
        · obtain ⟨qb, qo, r, rfl, Hr, hcell⟩ := kq.rd.at1 (k := j) (by rw [kq.len]; exact hlt)
          clear Hr kq
          rcases (by omega : r < 0 ∨ 1114111 < r ∨ (0 ≤ r ∧ r ≤ 1114111)) with hr | hr | ⟨hr0, hr1⟩
          · have Hx : Hid (hasB a r = false) := Lib.hid (hasB_false fun hp => by have := hp.1; have := hp.2.1; omega)
            have Hy : Hid (hasB b r = false) := Lib.hid (hasB_false fun hp => by have := hp.1; have := hp.2.1; omega)
            have Hin : Hid ((decide (0 ≤ r) && decide (r ≤ 1114111)) = false) := Lib.hid (by rw [Bool.and_eq_false_iff, decide_eq_false_iff_not, decide_eq_false_iff_not]; omega)
            have Hor : Hid (hasB (orR a b) r = false) := Lib.hid (by rw [hasB_orR, Hx.out, Hy.out]; rfl)
            have Hand : Hid (hasB (andR a b) r = false) := Lib.hid (by rw [hasB_andR, Hx.out, Hy.out]; rfl)
            have Hmin : Hid (hasB (minusR a b) r = false) := Lib.hid (by rw [hasB_minusR, Hx.out, Hy.out]; rfl)
            have Hnot : Hid (hasB (notR a) r = false) := Lib.hid (by rw [hasB_notR', Hx.out, Hin.out]; rfl)
            have hB2 := hbr
            clear hbr
            go_wp2_with fail
            refine (slrHas r ka).mono ?_
            rintro e w1 ⟨rfl, hb⟩
            rw [Hx.out]
            replace ka := ka.below hb
            replace kb := kb.below hb
            replace kor := kor.below hb
            replace kand := kand.below hb
            replace kmin := kmin.below hb
            replace knot := knot.below hb
            replace hB2 := below_two hB2 hb
            clear hb
            go_wp2_with fail
            refine (slrHas r kb).mono ?_
            rintro e w2 ⟨rfl, hb⟩
            rw [Hy.out]
            replace ka := ka.below hb
            replace kb := kb.below hb
            replace kor := kor.below hb
            replace kand := kand.below hb
            replace kmin := kmin.below hb
            replace knot := knot.below hb
            replace hB2 := below_two hB2 hb
            clear hb
            go_wp2_with fail
            refine (slrHas r kor).mono ?_
            rintro e w3 ⟨rfl, hb⟩
            rw [Hor.out]
            replace ka := ka.below hb
            replace kb := kb.below hb
            replace kor := kor.below hb
            replace kand := kand.below hb
            replace kmin := kmin.below hb
            replace knot := knot.below hb
            replace hB2 := below_two hB2 hb
            clear hb
            go_wp2_with fail
            refine (slrHas r kand).mono ?_
            rintro e w4 ⟨rfl, hb⟩
            rw [Hand.out]
            replace ka := ka.below hb
            replace kb := kb.below hb
            replace kor := kor.below hb
            replace kand := kand.below hb
            replace kmin := kmin.below hb
            replace knot := knot.below hb
            replace hB2 := below_two hB2 hb
            clear hb
            go_wp2_with fail
            refine (slrHas r kmin).mono ?_
            rintro e w5 ⟨rfl, hb⟩
            rw [Hmin.out]
            replace ka := ka.below hb
            replace kb := kb.below hb
            replace kor := kor.below hb
            replace kand := kand.below hb
            replace kmin := kmin.below hb
            replace knot := knot.below hb
            replace hB2 := below_two hB2 hb
            clear hb
            go_wp2_with fail
            refine (slrHas r knot).mono ?_
            rintro e w6 ⟨rfl, hb⟩
            rw [Hnot.out]
            replace ka := ka.below hb
            replace kb := kb.below hb
            replace kor := kor.below hb
            replace kand := kand.below hb
            replace kmin := kmin.below hb
            replace knot := knot.below hb
            replace hB2 := below_two hB2 hb
            clear hb
            go_wp2
            go_roundw
            case rel => exact ⟨j + 1, by omega, by go_num, hB2⟩
            case measure => simp [intOf]; omega
          · have Hx : Hid (hasB a r = false) := Lib.hid (hasB_false fun hp => by have := hp.1; have := hp.2.1; omega)
            have Hy : Hid (hasB b r = false) := Lib.hid (hasB_false fun hp => by have := hp.1; have := hp.2.1; omega)
            have Hin : Hid ((decide (0 ≤ r) && decide (r ≤ 1114111)) = false) := Lib.hid (by rw [Bool.and_eq_false_iff, decide_eq_false_iff_not, decide_eq_false_iff_not]; omega)
            have Hor : Hid (hasB (orR a b) r = false) := Lib.hid (by rw [hasB_orR, Hx.out, Hy.out]; rfl)
            have Hand : Hid (hasB (andR a b) r = false) := Lib.hid (by rw [hasB_andR, Hx.out, Hy.out]; rfl)
            have Hmin : Hid (hasB (minusR a b) r = false) := Lib.hid (by rw [hasB_minusR, Hx.out, Hy.out]; rfl)
            have Hnot : Hid (hasB (notR a) r = false) := Lib.hid (by rw [hasB_notR', Hx.out, Hin.out]; rfl)
            have hB2 := hbr
            clear hbr
            go_wp2_with fail
            refine (slrHas r ka).mono ?_
            rintro e w1 ⟨rfl, hb⟩
            rw [Hx.out]
            replace ka := ka.below hb
            replace kb := kb.below hb
            replace kor := kor.below hb
            replace kand := kand.below hb
            replace kmin := kmin.below hb
            replace knot := knot.below hb
            replace hB2 := below_two hB2 hb
            clear hb
            go_wp2_with fail
            refine (slrHas r kb).mono ?_
            rintro e w2 ⟨rfl, hb⟩
            rw [Hy.out]
            replace ka := ka.below hb
            replace kb := kb.below hb
            replace kor := kor.below hb
            replace kand := kand.below hb
            replace kmin := kmin.below hb
            replace knot := knot.below hb
            replace hB2 := below_two hB2 hb
            clear hb
            go_wp2_with fail
            refine (slrHas r kor).mono ?_
            rintro e w3 ⟨rfl, hb⟩
            rw [Hor.out]
            replace ka := ka.below hb
            replace kb := kb.below hb
            replace kor := kor.below hb
            replace kand := kand.below hb
            replace kmin := kmin.below hb
            replace knot := knot.below hb
            replace hB2 := below_two hB2 hb
            clear hb
            go_wp2_with fail
            refine (slrHas r kand).mono ?_
            rintro e w4 ⟨rfl, hb⟩
            rw [Hand.out]
            replace ka := ka.below hb
            replace kb := kb.below hb
            replace kor := kor.below hb
            replace kand := kand.below hb
            replace kmin := kmin.below hb
            replace knot := knot.below hb
            replace hB2 := below_two hB2 hb
            clear hb
            go_wp2_with fail
            refine (slrHas r kmin).mono ?_
            rintro e w5 ⟨rfl, hb⟩
            rw [Hmin.out]
            replace ka := ka.below hb
            replace kb := kb.below hb
            replace kor := kor.below hb
            replace kand := kand.below hb
            replace kmin := kmin.below hb
            replace knot := knot.below hb
            replace hB2 := below_two hB2 hb
            clear hb
            go_wp2_with fail
            refine (slrHas r knot).mono ?_
            rintro e w6 ⟨rfl, hb⟩
            rw [Hnot.out]
            replace ka := ka.below hb
            replace kb := kb.below hb
            replace kor := kor.below hb
            replace kand := kand.below hb
            replace kmin := kmin.below hb
            replace knot := knot.below hb
            replace hB2 := below_two hB2 hb
            clear hb
            go_wp2
            go_roundw
            case rel => exact ⟨j + 1, by omega, by go_num, hB2⟩
            case measure => simp [intOf]; omega
          · have Hin : Hid ((decide (0 ≤ r) && decide (r ≤ 1114111)) = true) := Lib.hid (by rw [Bool.and_eq_true, decide_eq_true_eq, decide_eq_true_eq]; omega)
            cases hx : hasB a r with
            | false =>
              cases hy : hasB b r with
              | false =>
                have Hx := Lib.hid hx
                have Hy := Lib.hid hy
                clear hx hy
                have Hor : Hid (hasB (orR a b) r = false) := Lib.hid (by rw [hasB_orR, Hx.out, Hy.out]; rfl)
                have Hand : Hid (hasB (andR a b) r = false) := Lib.hid (by rw [hasB_andR, Hx.out, Hy.out]; rfl)
                have Hmin : Hid (hasB (minusR a b) r = false) := Lib.hid (by rw [hasB_minusR, Hx.out, Hy.out]; rfl)
                have Hnot : Hid (hasB (notR a) r = true) := Lib.hid (by rw [hasB_notR', Hx.out, Hin.out]; rfl)
                have hB2 := hbr
                clear hbr
                go_wp2_with fail
                refine (slrHas r ka).mono ?_
                rintro e w1 ⟨rfl, hb⟩
                rw [Hx.out]
                replace ka := ka.below hb
                replace kb := kb.below hb
                replace kor := kor.below hb
                replace kand := kand.below hb
                replace kmin := kmin.below hb
                replace knot := knot.below hb
                replace hB2 := below_two hB2 hb
                clear hb
                go_wp2_with fail
                refine (slrHas r kb).mono ?_
                rintro e w2 ⟨rfl, hb⟩
                rw [Hy.out]
                replace ka := ka.below hb
                replace kb := kb.below hb
                replace kor := kor.below hb
                replace kand := kand.below hb
                replace kmin := kmin.below hb
                replace knot := knot.below hb
                replace hB2 := below_two hB2 hb
                clear hb
                go_wp2_with fail
                refine (slrHas r kor).mono ?_
                rintro e w3 ⟨rfl, hb⟩
                rw [Hor.out]
                replace ka := ka.below hb
                replace kb := kb.below hb
                replace kor := kor.below hb
                replace kand := kand.below hb
                replace kmin := kmin.below hb
                replace knot := knot.below hb
                replace hB2 := below_two hB2 hb
                clear hb
                go_wp2_with fail
                refine (slrHas r kand).mono ?_
                rintro e w4 ⟨rfl, hb⟩
                rw [Hand.out]
                replace ka := ka.below hb
                replace kb := kb.below hb
                replace kor := kor.below hb
                replace kand := kand.below hb
                replace kmin := kmin.below hb
                replace knot := knot.below hb
                replace hB2 := below_two hB2 hb
                clear hb
                go_wp2_with fail
                refine (slrHas r kmin).mono ?_
                rintro e w5 ⟨rfl, hb⟩
                rw [Hmin.out]
                replace ka := ka.below hb
                replace kb := kb.below hb
                replace kor := kor.below hb
                replace kand := kand.below hb
                replace kmin := kmin.below hb
                replace knot := knot.below hb
                replace hB2 := below_two hB2 hb
                clear hb
                go_wp2_with fail
                refine (slrHas r knot).mono ?_
                rintro e w6 ⟨rfl, hb⟩
                rw [Hnot.out]
                replace ka := ka.below hb
                replace kb := kb.below hb
                replace kor := kor.below hb
                replace kand := kand.below hb
                replace kmin := kmin.below hb
                replace knot := knot.below hb
                replace hB2 := below_two hB2 hb
                clear hb
                go_wp2
                go_roundw
                case rel => exact ⟨j + 1, by omega, by go_num, hB2⟩
                case measure => simp [intOf]; omega
              | true =>
                have Hx := Lib.hid hx
                have Hy := Lib.hid hy
                clear hx hy
                have Hor : Hid (hasB (orR a b) r = true) := Lib.hid (by rw [hasB_orR, Hx.out, Hy.out]; rfl)
                have Hand : Hid (hasB (andR a b) r = false) := Lib.hid (by rw [hasB_andR, Hx.out, Hy.out]; rfl)
                have Hmin : Hid (hasB (minusR a b) r = false) := Lib.hid (by rw [hasB_minusR, Hx.out, Hy.out]; rfl)
                have Hnot : Hid (hasB (notR a) r = true) := Lib.hid (by rw [hasB_notR', Hx.out, Hin.out]; rfl)
                have hB2 := hbr
                clear hbr
                go_wp2_with fail
                refine (slrHas r ka).mono ?_
                rintro e w1 ⟨rfl, hb⟩
                rw [Hx.out]
                replace ka := ka.below hb
                replace kb := kb.below hb
                replace kor := kor.below hb
                replace kand := kand.below hb
                replace kmin := kmin.below hb
                replace knot := knot.below hb
                replace hB2 := below_two hB2 hb
                clear hb
                go_wp2_with fail
                refine (slrHas r kb).mono ?_
                rintro e w2 ⟨rfl, hb⟩
                rw [Hy.out]
                replace ka := ka.below hb
                replace kb := kb.below hb
                replace kor := kor.below hb
                replace kand := kand.below hb
                replace kmin := kmin.below hb
                replace knot := knot.below hb
                replace hB2 := below_two hB2 hb
                clear hb
                go_wp2_with fail
                refine (slrHas r kor).mono ?_
                rintro e w3 ⟨rfl, hb⟩
                rw [Hor.out]
                replace ka := ka.below hb
                replace kb := kb.below hb
                replace kor := kor.below hb
                replace kand := kand.below hb
                replace kmin := kmin.below hb
                replace knot := knot.below hb
                replace hB2 := below_two hB2 hb
                clear hb
                go_wp2_with fail
                refine (slrHas r kand).mono ?_
                rintro e w4 ⟨rfl, hb⟩
                rw [Hand.out]
                replace ka := ka.below hb
                replace kb := kb.below hb
                replace kor := kor.below hb
                replace kand := kand.below hb
                replace kmin := kmin.below hb
                replace knot := knot.below hb
                replace hB2 := below_two hB2 hb
                clear hb
                go_wp2_with fail
                refine (slrHas r kmin).mono ?_
                rintro e w5 ⟨rfl, hb⟩
                rw [Hmin.out]
                replace ka := ka.below hb
                replace kb := kb.below hb
                replace kor := kor.below hb
                replace kand := kand.below hb
                replace kmin := kmin.below hb
                replace knot := knot.below hb
                replace hB2 := below_two hB2 hb
                clear hb
                go_wp2_with fail
                refine (slrHas r knot).mono ?_
                rintro e w6 ⟨rfl, hb⟩
                rw [Hnot.out]
                replace ka := ka.below hb
                replace kb := kb.below hb
                replace kor := kor.below hb
                replace kand := kand.below hb
                replace kmin := kmin.below hb
                replace knot := knot.below hb
                replace hB2 := below_two hB2 hb
                clear hb
                go_wp2
                go_roundw
                case rel => exact ⟨j + 1, by omega, by go_num, hB2⟩
                case measure => simp [intOf]; omega
            | true =>
              cases hy : hasB b r with
              | false =>
                have Hx := Lib.hid hx
                have Hy := Lib.hid hy
                clear hx hy
                have Hor : Hid (hasB (orR a b) r = true) := Lib.hid (by rw [hasB_orR, Hx.out, Hy.out]; rfl)
                have Hand : Hid (hasB (andR a b) r = false) := Lib.hid (by rw [hasB_andR, Hx.out, Hy.out]; rfl)
                have Hmin : Hid (hasB (minusR a b) r = true) := Lib.hid (by rw [hasB_minusR, Hx.out, Hy.out]; rfl)
                have Hnot : Hid (hasB (notR a) r = false) := Lib.hid (by rw [hasB_notR', Hx.out, Hin.out]; rfl)
                have hB2 := hbr
                clear hbr
                go_wp2_with fail
                refine (slrHas r ka).mono ?_
                rintro e w1 ⟨rfl, hb⟩
                rw [Hx.out]
                replace ka := ka.below hb
                replace kb := kb.below hb
                replace kor := kor.below hb
                replace kand := kand.below hb
                replace kmin := kmin.below hb
                replace knot := knot.below hb
                replace hB2 := below_two hB2 hb
                clear hb
                go_wp2_with fail
                refine (slrHas r kb).mono ?_
                rintro e w2 ⟨rfl, hb⟩
                rw [Hy.out]
                replace ka := ka.below hb
                replace kb := kb.below hb
                replace kor := kor.below hb
                replace kand := kand.below hb
                replace kmin := kmin.below hb
                replace knot := knot.below hb
                replace hB2 := below_two hB2 hb
                clear hb
                go_wp2_with fail
                refine (slrHas r kor).mono ?_
                rintro e w3 ⟨rfl, hb⟩
                rw [Hor.out]
                replace ka := ka.below hb
                replace kb := kb.below hb
                replace kor := kor.below hb
                replace kand := kand.below hb
                replace kmin := kmin.below hb
                replace knot := knot.below hb
                replace hB2 := below_two hB2 hb
                clear hb
                go_wp2_with fail
                refine (slrHas r kand).mono ?_
                rintro e w4 ⟨rfl, hb⟩
                rw [Hand.out]
                replace ka := ka.below hb
                replace kb := kb.below hb
                replace kor := kor.below hb
                replace kand := kand.below hb
                replace kmin := kmin.below hb
                replace knot := knot.below hb
                replace hB2 := below_two hB2 hb
                clear hb
                go_wp2_with fail
                refine (slrHas r kmin).mono ?_
                rintro e w5 ⟨rfl, hb⟩
                rw [Hmin.out]
                replace ka := ka.below hb
                replace kb := kb.below hb
                replace kor := kor.below hb
                replace kand := kand.below hb
                replace kmin := kmin.below hb
                replace knot := knot.below hb
                replace hB2 := below_two hB2 hb
                clear hb
                go_wp2_with fail
                refine (slrHas r knot).mono ?_
                rintro e w6 ⟨rfl, hb⟩
                rw [Hnot.out]
                replace ka := ka.below hb
                replace kb := kb.below hb
                replace kor := kor.below hb
                replace kand := kand.below hb
                replace kmin := kmin.below hb
                replace knot := knot.below hb
                replace hB2 := below_two hB2 hb
                clear hb
                go_wp2
                go_roundw
                case rel => exact ⟨j + 1, by omega, by go_num, hB2⟩
                case measure => simp [intOf]; omega
              | true =>
                have Hx := Lib.hid hx
                have Hy := Lib.hid hy
                clear hx hy
                have Hor : Hid (hasB (orR a b) r = true) := Lib.hid (by rw [hasB_orR, Hx.out, Hy.out]; rfl)
                have Hand : Hid (hasB (andR a b) r = true) := Lib.hid (by rw [hasB_andR, Hx.out, Hy.out]; rfl)
                have Hmin : Hid (hasB (minusR a b) r = false) := Lib.hid (by rw [hasB_minusR, Hx.out, Hy.out]; rfl)
                have Hnot : Hid (hasB (notR a) r = false) := Lib.hid (by rw [hasB_notR', Hx.out, Hin.out]; rfl)
                have hB2 := hbr
                clear hbr
                go_wp2_with fail
                refine (slrHas r ka).mono ?_
                rintro e w1 ⟨rfl, hb⟩
                rw [Hx.out]
                replace ka := ka.below hb
                replace kb := kb.below hb
                replace kor := kor.below hb
                replace kand := kand.below hb
                replace kmin := kmin.below hb
                replace knot := knot.below hb
                replace hB2 := below_two hB2 hb
                clear hb
                go_wp2_with fail
                refine (slrHas r kb).mono ?_
                rintro e w2 ⟨rfl, hb⟩
                rw [Hy.out]
                replace ka := ka.below hb
                replace kb := kb.below hb
                replace kor := kor.below hb
                replace kand := kand.below hb
                replace kmin := kmin.below hb
                replace knot := knot.below hb
                replace hB2 := below_two hB2 hb
                clear hb
                go_wp2_with fail
                refine (slrHas r kor).mono ?_
                rintro e w3 ⟨rfl, hb⟩
                rw [Hor.out]
                replace ka := ka.below hb
                replace kb := kb.below hb
                replace kor := kor.below hb
                replace kand := kand.below hb
                replace kmin := kmin.below hb
                replace knot := knot.below hb
                replace hB2 := below_two hB2 hb
                clear hb
                go_wp2_with fail
                refine (slrHas r kand).mono ?_
                rintro e w4 ⟨rfl, hb⟩
                rw [Hand.out]
                replace ka := ka.below hb
                replace kb := kb.below hb
                replace kor := kor.below hb
                replace kand := kand.below hb
                replace kmin := kmin.below hb
                replace knot := knot.below hb
                replace hB2 := below_two hB2 hb
                clear hb
                go_wp2_with fail
                refine (slrHas r kmin).mono ?_
                rintro e w5 ⟨rfl, hb⟩
                rw [Hmin.out]
                replace ka := ka.below hb
                replace kb := kb.below hb
                replace kor := kor.below hb
                replace kand := kand.below hb
                replace kmin := kmin.below hb
                replace knot := knot.below hb
                replace hB2 := below_two hB2 hb
                clear hb
                go_wp2_with fail
                refine (slrHas r knot).mono ?_
                rintro e w6 ⟨rfl, hb⟩
                rw [Hnot.out]
                replace ka := ka.below hb
                replace kb := kb.below hb
                replace kor := kor.below hb
                replace kand := kand.below hb
                replace kmin := kmin.below hb
                replace knot := knot.below hb
                replace hB2 := below_two hB2 hb
                clear hb
                go_wp2
                go_roundw
                case rel => exact ⟨j + 1, by omega, by go_num, hB2⟩
                case measure => simp [intOf]; omega
        · obtain rfl : j = h := by omega
          clear hlt hbr HB0
          go_wp2_with fail
          refine (slrIs kor).mono ?_
          rintro e w1 ⟨rfl, hb⟩
          rw [I1.out]
          replace kor := kor.below hb
          replace kand := kand.below hb
          replace kmin := kmin.below hb
          replace knot := knot.below hb
          replace HB := below_two HB hb
          clear hb
          go_wp2_with fail
          refine (slrIs kand).mono ?_
          rintro e w2 ⟨rfl, hb⟩
          rw [I2.out]
          replace kor := kor.below hb
          replace kand := kand.below hb
          replace kmin := kmin.below hb
          replace knot := knot.below hb
          replace HB := below_two HB hb
          clear hb
          go_wp2_with fail
          refine (slrIs kmin).mono ?_
          rintro e w3 ⟨rfl, hb⟩
          rw [I3.out]
          replace kor := kor.below hb
          replace kand := kand.below hb
          replace kmin := kmin.below hb
          replace knot := knot.below hb
          replace HB := below_two HB hb
          clear hb
          go_wp2_with fail
          refine (slrIs knot).mono ?_
          rintro e w4 ⟨rfl, hb⟩
          rw [I4.out]
          replace kor := kor.below hb
          replace kand := kand.below hb
          replace kmin := kmin.below hb
          replace knot := knot.below hb
          replace HB := below_two HB hb
          clear hb
          have hT2 := hT.below HB
          go_wp2_with fail
          refine (klive_any _ hT2).mono ?_
          rintro e wz ⟨rfl, hb⟩
          replace HB := below_two HB hb
          go_wp2
          go_ret
          exact ⟨rfl, HB⟩
end Go.Proofs.YteelepiaegpkhaaDoor
