/-
  kerflaw02.RunesReads, walked.
-/
import Derived.Test.YteelepiaegpkhaaDoorLive2
namespace Go.Proofs.YteelepiaegpkhaaDoor
open Go.RowKit

set_option maxRecDepth 100000 in
set_option maxHeartbeats 1000000 in
theorem kRunesReads_any (s : ByteArray) (w : World) (hT : Tabs w) (hm : s.size ≤ maxLen) : Calls Tryd.prog 3 #[.string s] w fun e w' => e = .returned (.bool true) ∧ RowKit.Below w.heap.size w w' := by
  unfold maxLen at hm
  by_cases hs : 20000 < s.size
  · go_enter Tryd.func3, Tryd.ntmps3
    go_wp2_with fail
    refine (klive_any w hT).mono ?_
    rintro e w1 ⟨rfl, hb1⟩
    go_wp2
    go_ret
    exact ⟨rfl, hb1⟩
  · have hs' : s.size ≤ 20000 := by omega
    clear hs
    go_enter Tryd.func3, Tryd.ntmps3
    go_wp2_with fail
    refine (rParse_any s w hT (by omega)).mono ?_
    rintro e w1 ⟨hb1, hE1⟩
    cases hp : parseP s with
    | error x =>
      rw [hp] at hE1
      obtain rfl : e = _ := hE1
      go_wp2_with fail
      refine (sParse_any s w1 (by omega)).mono ?_
      rintro e w2 ⟨hb2, hE2⟩
      rw [hp] at hE2
      obtain rfl : e = _ := hE2
      have hB2 := below_two hb1 hb2
      clear hb1 hb2 hp
      go_wp2_with fail
      refine (sSame_any none none 0 0 0 0 [] [] w2 (Rd.nil_ _ _ _) (Rd.nil_ _ _ _) rfl rfl (by decide) (by decide)).mono ?_
      rintro e w3 ⟨rfl, q, rfl⟩
      rw [show decide (([] : List (Int × Int)) = []) = true from rfl]
      have hB3 := below_drewN hB2 q
      have hT3 := hT.below hB3
      clear hB2
      go_wp2_with fail
      refine (knum_any _ _).mono ?_
      rintro e w4 ⟨rfl, rfl⟩
      go_wp2_with fail
      refine (klive_any _ hT3).mono ?_
      rintro e w1 ⟨rfl, hb1⟩
      go_wp2
      go_ret
      exact ⟨rfl, below_two hB3 hb1⟩
    | ok l =>
      rw [hp] at hE1
      obtain ⟨A1, n1, c1, rfl, ho1⟩ := hE1
      go_wp2_with fail
      refine (sParse_any s w1 (by omega)).mono ?_
      rintro e w2 ⟨hb2, hE2⟩
      rw [hp] at hE2
      obtain ⟨A2, n2, c2, rfl, ho2⟩ := hE2
      have hA1 := (ho1.rd (by omega)).below hb2
      have hA2 := ho2.rd (by omega)
      have hn1 : n1 ≤ 557056 := own_nf_len ho1 (normR_NF l)
      have hn2 : n2 ≤ 557056 := own_nf_len ho2 (normR_NF l)
      have H1 : Hid ((normR l).length = n1) := Lib.hid (by simpa using ho1.len)
      have H2 : Hid ((normR l).length = n2) := Lib.hid (by simpa using ho2.len)
      have hB2 := below_two hb1 hb2
      clear hb1 hb2 hp ho1 ho2
      go_wp2_with fail
      refine (sSame_any A1 A2 n1 c1 n2 c2 (normR l) (normR l) w2 hA1 hA2 H1.out H2.out (by unfold maxLen; omega) (by unfold maxLen; omega)).mono ?_
      rintro e w3 ⟨rfl, q, rfl⟩
      rw [show decide (normR l = normR l) = true from decide_eq_true rfl]
      have hB3 := below_drewN hB2 q
      have hT3 := hT.below hB3
      clear hB2 hA1 hA2
      go_wp2_with fail
      refine (knum_any _ _).mono ?_
      rintro e w4 ⟨rfl, rfl⟩
      go_wp2_with fail
      refine (klive_any _ hT3).mono ?_
      rintro e w1 ⟨rfl, hb1⟩
      go_wp2
      go_ret
      exact ⟨rfl, below_two hB3 hb1⟩
end Go.Proofs.YteelepiaegpkhaaDoor
