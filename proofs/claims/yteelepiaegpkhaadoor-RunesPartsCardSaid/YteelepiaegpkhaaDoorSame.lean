/-
  kerfref02.Same: two lists of ranges side by side.
-/
import Derived.Test.YteelepiaegpkhaaDoorBase
namespace Go.Proofs.YteelepiaegpkhaaDoor
open Go.RowKit
attribute [local go_sem ↓] neqR eqlR

set_option maxHeartbeats 400000 in
theorem sSame_any (A A2 : Option Addr) (n c m c2 : Nat) (xs ys : List (Int × Int)) (w : World) (hA : Rd w 2 A (xs.map encR)) (hB : Rd w 2 A2 (ys.map encR))
    (hn : xs.length = n) (hm : ys.length = m) (hn' : n ≤ maxLen) (hm' : m ≤ maxLen) :
    Calls Tryd.prog 14 #[.slice A n c, .slice A2 m c2] w fun e w' => e = .returned (.bool (decide (xs = ys))) ∧ ∃ q, w' = w.drewN q := by
  unfold maxLen at hn' hm'
  by_cases hl : n = m
  · subst hl
    have Hn := Lib.hid hn; have Hm := Lib.hid hm
    clear hn hm
    go_enter Tryd.func14, Tryd.ntmps14
    go_wp2
    go_loopw [5] (fun i wr => ∃ k : Nat, k ≤ n ∧ i = .int .i64 k ∧ Hid (∀ i, i < k → xs[i]? = ys[i]?) ∧ (∃ q, wr = w.drewN q)) (fun i _ => n - (intOf i).toNat)
    case atStart => exact ⟨0, by omega, rfl, fun i hi => by omega, 0, rfl⟩
    case round =>
      obtain ⟨k, hk, rfl, HE, q, rfl⟩ := hrel
      by_cases hlt : k < n
      · obtain ⟨b, off, lo, hi, rfl, Hx, hx1, hx2⟩ := hA.atR (k := k) (by have := Hn.out; omega)
        obtain ⟨b2, off2, lo2, hi2, rfl, Hy, hy1, hy2⟩ := hB.atR (k := k) (by have := Hm.out; omega)
        by_cases he : (lo, hi) = (lo2, hi2)
        · have he' := eqRB_true he
          have HE' : Hid (∀ i, i < k + 1 → xs[i]? = ys[i]?) := fun i hi => by
            rcases Nat.lt_or_ge i k with h | h
            · exact HE.out i h
            · obtain rfl : i = k := by omega
              rw [Hx.out, Hy.out, he]
          clear he
          go_wp2_with fail
          go_quiet (fail)
          go_wp2
          go_roundw
          case rel => exact ⟨k + 1, by omega, by go_num, HE', _, rfl⟩
          case measure => simp [intOf]; omega
        · have he' := eqRB_false he
          have HF : Hid (decide (xs = ys) = false) := decide_eq_false fun e => he (by have h1 := Hx.out; rw [e, Hy.out] at h1; simpa using h1.symm)
          clear he
          go_wp2_with fail
          go_quiet (fail)
          go_wp2
          go_ret
          exact ⟨ret_bool HF.out.symm, drN2 _ _ _⟩
      · go_wp2
        go_ret
        have : xs = ys := by
          apply List.ext_getElem? 
          intro i
          rcases Nat.lt_or_ge i n with h | h
          · exact HE.out i (by omega)
          · rw [List.getElem?_eq_none (by have := Hn.out; omega), List.getElem?_eq_none (by have := Hm.out; omega)]
        exact ⟨ret_bool (by simp [this]), _, rfl⟩
  · have hl' : (((n : Int)) != (m : Int)) = true := by simp; omega
    have HF : Hid (decide (xs = ys) = false) := decide_eq_false fun e => hl (by rw [← hn, ← hm, e])
    clear hn hm
    go_enter Tryd.func14, Tryd.ntmps14
    go_wp2
    go_ret
    exact ⟨ret_bool HF.out.symm, 0, rfl⟩
end Go.Proofs.YteelepiaegpkhaaDoor
