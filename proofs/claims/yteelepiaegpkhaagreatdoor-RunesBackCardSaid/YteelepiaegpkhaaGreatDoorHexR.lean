/-
  kerfref02.Hex: a rune's number in hexadecimal digits.
-/
import Derived.Test.YteelepiaegpkhaaGreatDoorPrintP
import Derived.Test.YteelepiaegpkhaaGreatDoorBase
import Derived.Deep.LoopGhost
namespace Go.Proofs.YteelepiaegpkhaaGreatDoor
open Go.RowKit

theorem hexW_succ (j n : Nat) : hexW (j + 1) n = hexD (n / 16 ^ j % 16) :: hexW j n := by
  induction j generalizing n with
  | zero => simp [hexW]
  | succ j ih => rw [hexW, ih, hexW, Nat.div_div_eq_div_mul, ← Nat.pow_succ']; rfl
theorem digits_at (d : Nat) (h : d < 16) : ((⟨#[48, 49, 50, 51, 52, 53, 54, 55, 56, 57, 65, 66, 67, 68, 69, 70]⟩ : ByteArray).extract d (d + 1)).data.toList = [hexD d] := by
  rcases (by omega : d = 0 ∨ d = 1 ∨ d = 2 ∨ d = 3 ∨ d = 4 ∨ d = 5 ∨ d = 6 ∨ d = 7 ∨ d = 8 ∨ d = 9 ∨ d = 10 ∨ d = 11 ∨ d = 12 ∨ d = 13 ∨ d = 14 ∨ d = 15) with rfl | rfl | rfl | rfl | rfl | rfl | rfl | rfl | rfl | rfl | rfl | rfl | rfl | rfl | rfl | rfl <;> rfl
/-- How far Hex has come. -/
def HexAt (r j x : Nat) (t : ByteArray) : Prop := x = r / 16 ^ j ∧ t.data.toList = hexW j r ∧ j ≤ hexK r
theorem hexAt_next {r j x d q : Nat} {t : ByteArray} (h : HexAt r j x t) (hr : r ≤ 1114111) (hc : 0 < x ∨ j < 4) (hd : x = 16 * q + d) (h16 : d < 16) :
    HexAt r (j + 1) q ((⟨#[48, 49, 50, 51, 52, 53, 54, 55, 56, 57, 65, 66, 67, 68, 69, 70]⟩ : ByteArray).extract d (d + 1) ++ t) := by
  obtain ⟨rfl, h2, h3⟩ := h
  refine ⟨by rw [Nat.pow_succ, ← Nat.div_div_eq_div_mul]; omega, ?_, ?_⟩
  · rw [ByteArray.data_append, Array.toList_append, digits_at d h16, h2, hexW_succ]
    have : r / 16 ^ j % 16 = d := by omega
    rw [this]; rfl
  · unfold hexK at h3 ⊢
    rcases hc with hc | hc
    · rcases (by omega : j < 4 ∨ j = 4 ∨ j = 5 ∨ 6 ≤ j) with h | rfl | rfl | h
      · split <;> (try split) <;> omega
      · have : 0 < r / 65536 := hc
        split <;> (try split) <;> omega
      · have : 0 < r / 1048576 := hc
        split <;> (try split) <;> omega
      · have h7 : 16 ^ 6 ≤ 16 ^ j := Nat.pow_le_pow_right (by omega) h
        have h8 : (16 : Nat) ^ 6 = 16777216 := by decide
        have h6 : r / 16 ^ j = 0 := Nat.div_eq_of_lt (Nat.lt_of_lt_of_le (show r < 16 ^ 6 by rw [h8]; omega) h7)
        omega
    · split <;> (try split) <;> omega
theorem hexAt_end {r j : Nat} {t : ByteArray} (h : HexAt r j 0 t) (h4 : 4 ≤ j) : t = ⟨(hexS r).toArray⟩ := by
  obtain ⟨h1, h2, h3⟩ := h
  have hj : j = hexK r := by
    unfold hexK at h3 ⊢
    have hlt : r < 16 ^ j := by
      rcases Nat.lt_or_ge r (16 ^ j) with h | h
      · exact h
      · have := Nat.div_pos h (Nat.pow_pos (by decide : 0 < 16)); omega
    rcases (by omega : j = 4 ∨ j = 5 ∨ 6 ≤ j) with rfl | rfl | h
    · have : r < 65536 := hlt
      rw [if_pos this]
    · have : r < 1048576 := hlt
      split at h3
      · omega
      · rw [if_neg (by assumption), if_pos this]
    · have h9 : (if r < 65536 then 4 else if r < 1048576 then 5 else 6) ≤ 6 := by split <;> (try split) <;> omega
      have h10 : j = 6 := by omega
      subst h10
      by_cases h11 : r < 65536
      · rw [if_pos h11] at h3; omega
      · by_cases h12 : r < 1048576
        · rw [if_neg h11, if_pos h12] at h3; omega
        · rw [if_neg h11, if_neg h12]
  subst hj
  apply ByteArray.ext
  rw [← Array.toList_inj, h2]; rfl
theorem hexAt_len {r j x : Nat} {t : ByteArray} (h : HexAt r j x t) : t.size = j := by rw [← size_data, h.2.1, hexW_len]

set_option maxRecDepth 100000 in
set_option maxHeartbeats 1000000 in
theorem sHex_any (r : Nat) (w : World) (h1 : r ≤ 1114111) :
    Calls Tryz.prog 21 #[.int .i32 r] w fun e w' => e = .returned (.string ⟨(hexS r).toArray⟩) ∧ w = w' := by
  go_enter Tryz.func21, Tryz.ntmps21
  go_wp2
  go_loopg [0, 4] 7 (fun gk v0 v4 wx => wx = w ∧ ∃ (j x : Nat) (t : ByteArray), v0 = .int .i32 x ∧ v4 = .string t ∧ Hid (HexAt r j x t) ∧ Hid (j + gk = 7) ∧ x ≤ 1114111 ∧ t.size ≤ j ∧ j ≤ t.size ∧ j ≤ 6)
  case atStart => exact ⟨rfl, 0, r, _, rfl, rfl, Lib.hid ⟨by simp, rfl, by omega⟩, Lib.hid rfl, h1, by decide, by decide, by omega⟩
  case round =>
    obtain ⟨rfl, j, x, t, rfl, rfl, HX, HG, hx, ht1, ht2, hj⟩ := hrel
    have hk := HX.out.2.2
    by_cases hc : 0 < x ∨ j < 4
    · obtain ⟨q, d, hd, h16⟩ : ∃ q d, x = 16 * q + d ∧ d < 16 := ⟨x / 16, x % 16, by omega, by omega⟩
      have HN := Lib.hid (hexAt_next HX.out h1 hc hd h16)
      have hm : (x : Int) % 16 = (d : Int) := by omega
      have hq : (x : Int) / 16 = (q : Int) := by omega
      have hj6 : j < 6 := by
        have := HN.out.2.2
        have := hexK_bd r
        omega
      obtain ⟨g', hg'⟩ : ∃ g', gk = g' + 1 := ⟨gk - 1, by have := HG.out; omega⟩
      subst hg'
      clear hk
      have hx0 : x = 0 ∨ 0 < x := by omega
      rcases hx0 with hx0 | hx0
      · subst hx0
        obtain rfl : d = 0 := by omega
        obtain rfl : q = 0 := by omega
        clear hm hq hd
        rw [Nat.zero_add] at HN
        have h4 : j < 4 := by omega
        have h5 : t.size < 4 := by omega
        clear hc
        go_wp2
        go_roundg g'
        all_goals first
          | omega
          | exact ⟨rfl, j + 1, 0, _, rfl, rfl, HN, Lib.hid (by have := HG.out; omega), by omega, by have := hexAt_len HN.out; omega, by have := hexAt_len HN.out; omega, by omega⟩
      · clear hc hd
        go_wp2
        go_roundg g'
        all_goals first
          | omega
          | exact ⟨rfl, j + 1, q, _, rfl, rfl, HN, Lib.hid (by have := HG.out; omega), by omega, by have := hexAt_len HN.out; omega, by have := hexAt_len HN.out; omega, by omega⟩
    · have h4 : 4 ≤ t.size := by omega
      obtain rfl : x = 0 := by omega
      have HE := Lib.hid (hexAt_end HX.out (by omega))
      go_wp2
      go_ret
      exact ⟨by rw [HE.out]; rfl, rfl⟩
end Go.Proofs.YteelepiaegpkhaaGreatDoor
