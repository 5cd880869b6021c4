/-
  runes.spell: a rune's spelling.
-/
import Derived.Test.YteelepiaegpkhaaGreatDoorHexR
import Derived.Test.YteelepiaegpkhaaGreatDoorFmt
import Derived.Test.YteelepiaegpkhaaGreatDoorUpper
import Derived.Test.YteelepiaegpkhaaGreatDoorRepeat
namespace Go.Proofs.YteelepiaegpkhaaGreatDoor
open Go.RowKit

theorem upB_lowD (d : Nat) (h : d < 16) : upB (lowD d) = hexD d := by
  rcases (by omega : d = 0 ∨ d = 1 ∨ d = 2 ∨ d = 3 ∨ d = 4 ∨ d = 5 ∨ d = 6 ∨ d = 7 ∨ d = 8 ∨ d = 9 ∨ d = 10 ∨ d = 11 ∨ d = 12 ∨ d = 13 ∨ d = 14 ∨ d = 15) with rfl | rfl | rfl | rfl | rfl | rfl | rfl | rfl | rfl | rfl | rfl | rfl | rfl | rfl | rfl | rfl <;> rfl
theorem lowD_lt (d : Nat) (h : d < 16) : (lowD d).toNat < 128 := by
  rcases (by omega : d = 0 ∨ d = 1 ∨ d = 2 ∨ d = 3 ∨ d = 4 ∨ d = 5 ∨ d = 6 ∨ d = 7 ∨ d = 8 ∨ d = 9 ∨ d = 10 ∨ d = 11 ∨ d = 12 ∨ d = 13 ∨ d = 14 ∨ d = 15) with rfl | rfl | rfl | rfl | rfl | rfl | rfl | rfl | rfl | rfl | rfl | rfl | rfl | rfl | rfl | rfl <;> decide
theorem up_lowW : ∀ (k n : Nat), (lowW k n).map upB = hexW k n
  | 0, _ => rfl
  | k + 1, n => by rw [lowW, List.map_append, up_lowW k, List.map_singleton, upB_lowD _ (Nat.mod_lt _ (by decide)), hexW]
theorem lowW_ascii : ∀ (k n : Nat), ∀ c ∈ lowW k n, c.toNat < 128
  | 0, _, c, h => by simp [lowW] at h
  | k + 1, n, c, h => by
    rw [lowW] at h
    rcases List.mem_append.1 h with h | h
    · exact lowW_ascii k _ c h
    · simp at h; subst h; exact lowD_lt _ (Nat.mod_lt _ (by decide))
theorem hex_pad (n : Nat) : List.replicate (4 - hexL n) (48 : UInt8) ++ hexW (hexL n) n = hexS n := by
  unfold hexS
  by_cases h1 : n < 16
  · have e1 : hexL n = 1 := by unfold hexL; rw [if_pos h1]
    have e2 : hexK n = 4 := by unfold hexK; rw [if_pos (by omega)]
    rw [e1, e2, hexW_succ 3, hexW_succ 2, hexW_succ 1]
    have a1 : n / 16 ^ 3 % 16 = 0 := by rw [show (16 : Nat) ^ 3 = 4096 by decide]; omega
    have a2 : n / 16 ^ 2 % 16 = 0 := by rw [show (16 : Nat) ^ 2 = 256 by decide]; omega
    have a3 : n / 16 ^ 1 % 16 = 0 := by rw [show (16 : Nat) ^ 1 = 16 by decide]; omega
    rw [a1, a2, a3]; rfl
  · by_cases h2 : n < 256
    · have e1 : hexL n = 2 := by unfold hexL; rw [if_neg h1, if_pos h2]
      have e2 : hexK n = 4 := by unfold hexK; rw [if_pos (by omega)]
      rw [e1, e2, hexW_succ 3, hexW_succ 2]
      have a1 : n / 16 ^ 3 % 16 = 0 := by rw [show (16 : Nat) ^ 3 = 4096 by decide]; omega
      have a2 : n / 16 ^ 2 % 16 = 0 := by rw [show (16 : Nat) ^ 2 = 256 by decide]; omega
      rw [a1, a2]; rfl
    · by_cases h3 : n < 4096
      · have e1 : hexL n = 3 := by unfold hexL; rw [if_neg h1, if_neg h2, if_pos h3]
        have e2 : hexK n = 4 := by unfold hexK; rw [if_pos (by omega)]
        rw [e1, e2, hexW_succ 3]
        have a1 : n / 16 ^ 3 % 16 = 0 := by rw [show (16 : Nat) ^ 3 = 4096 by decide]; omega
        rw [a1]; rfl
      · have e1 : hexL n = hexK n := by unfold hexL; rw [if_neg h1, if_neg h2, if_neg h3]
        have := hexK_bd n
        rw [e1, show 4 - hexK n = 0 by omega]; rfl

theorem ret_str {x y : ByteArray} (h : x.data.toList = y.data.toList) : Ending.returned (.string x) = .returned (.string y) := by
  rw [ByteArray.ext (Array.toList_inj.1 h)]

set_option maxRecDepth 100000 in
set_option maxHeartbeats 1000000 in
theorem rspell_any (n : Nat) (w : World) (h1 : n ≤ 1114111) (hT : TabB w) :
    Calls Tryz.prog 16 #[.int .i32 n] w fun e w' => e = .returned (.string ⟨(spellP n).toArray⟩) ∧ Below w.heap.size w w' := by
  have hl := hexL_bd n
  have hsz : (⟨(lowS n).toArray⟩ : ByteArray).size = hexL n := by rw [← size_data]; simp [lowS, lowW_len]
  have hup : (⟨(lowS n).toArray⟩ : ByteArray).data.toList.map upB = hexW (hexL n) n := by simp [lowS, up_lowW]
  have HU := Lib.hid hup
  have hasc := fun c (h : c ∈ (⟨(lowS n).toArray⟩ : ByteArray).data.toList) => lowW_ascii (hexL n) n c (by simpa [lowS] using h)
  have Hasc := Lib.hid hasc
  have hs9 : (⟨(lowS n).toArray⟩ : ByteArray).size ≤ 1000000 := by omega
  clear hup hasc hsz
  generalize hX : (⟨(lowS n).toArray⟩ : ByteArray) = X at HU Hasc hs9
  have HX := Lib.hid hX
  clear hX
  obtain ⟨H, hH⟩ : ∃ H : ByteArray, (⟨(hexW (hexL n) n).toArray⟩ : ByteArray) = H := ⟨_, rfl⟩
  have hHs : H.size = hexL n := by rw [← hH, ← size_data]; simp [hexW_len]
  have HH := Lib.hid hH
  have HD := Lib.hid (show [85, 43] ++ List.replicate (4 - hexL n) (48 : UInt8) ++ H.data.toList = spellP n by
    rw [← hH, List.append_assoc, hex_pad]; rfl)
  clear hH
  go_enter Tryz.func16, Tryz.ntmps16
  go_wp2_with fail
  refine (lFormat_any n w h1 hT).mono ?_
  rintro e w1 ⟨rfl, hb1⟩
  rw [HX.out]
  go_wp2_with fail
  refine (lToUpper_any X w1 hs9 Hasc.out).mono ?_
  rintro e w2 ⟨rfl, hb2⟩
  rw [HU.out, HH.out]
  have hb := below_two hb1 hb2
  clear hb1 hb2
  rcases (by omega : hexL n = 1 ∨ hexL n = 2 ∨ hexL n = 3 ∨ hexL n = 4 ∨ hexL n = 5 ∨ hexL n = 6) with h | h | h | h | h | h
  · rw [h] at hHs HD
    clear h hl
    go_wp2_with fail
    refine (lRepeat_any 3 (by decide) w2).mono ?_
    rintro e w3 ⟨rfl, rfl⟩
    go_wp2
    go_ret
    exact ⟨ret_str (by have h := HD.out; simp at h ⊢; exact h), hb⟩
  · rw [h] at hHs HD
    clear h hl
    go_wp2_with fail
    refine (lRepeat_any 2 (by decide) w2).mono ?_
    rintro e w3 ⟨rfl, rfl⟩
    go_wp2
    go_ret
    exact ⟨ret_str (by have h := HD.out; simp at h ⊢; exact h), hb⟩
  · rw [h] at hHs HD
    clear h hl
    go_wp2_with fail
    refine (lRepeat_any 1 (by decide) w2).mono ?_
    rintro e w3 ⟨rfl, rfl⟩
    go_wp2
    go_ret
    exact ⟨ret_str (by have h := HD.out; simp at h ⊢; exact h), hb⟩
  · rw [h] at hHs HD
    clear h hl
    go_wp2_with fail
    refine (lRepeat_any 0 (by decide) w2).mono ?_
    rintro e w3 ⟨rfl, rfl⟩
    go_wp2
    go_ret
    exact ⟨ret_str (by have h := HD.out; simp at h ⊢; exact h), hb⟩
  · rw [h] at hHs HD
    clear h hl
    go_wp2_with fail
    refine (lRepeat_any 0 (by decide) w2).mono ?_
    rintro e w3 ⟨rfl, rfl⟩
    go_wp2
    go_ret
    exact ⟨ret_str (by have h := HD.out; simp at h ⊢; exact h), hb⟩
  · rw [h] at hHs HD
    clear h hl
    go_wp2_with fail
    refine (lRepeat_any 0 (by decide) w2).mono ?_
    rintro e w3 ⟨rfl, rfl⟩
    go_wp2
    go_ret
    exact ⟨ret_str (by have h := HD.out; simp at h ⊢; exact h), hb⟩
end Go.Proofs.YteelepiaegpkhaaGreatDoor
