/-
  kerfref02.spelling whole.
-/
import Derived.Test.YteelepiaegpkhaaGreatDoorRefV
namespace Go.Proofs.YteelepiaegpkhaaGreatDoor
open Go.RowKit

/-- Does a rune's number stand there? As the three tests of the code say it. -/
theorem notPrefix_cases {s : ByteArray} {a : Nat} (h : [85, 43].isPrefixOf (rest s a) = false) :
    s.size ≤ a + 1 ∨ (∃ h1 : a + 1 < s.size, (((s[a]'(by omega)).toNat : Int) == 85) = false) ∨ (∃ h1 : a + 1 < s.size, (((s[a]'(by omega)).toNat : Int) == 85) = true ∧ (((s[a + 1]'h1).toNat : Int) == 43) = false) := by
  by_cases h1 : a + 1 < s.size
  · rw [isPrefix_rest h1] at h
    by_cases h0 : s[a]'(by omega) = 85
    · refine .inr (.inr ⟨h1, by rw [h0]; rfl, ?_⟩)
      have : ¬ s[a + 1]'h1 = 43 := fun e => by rw [h0, e] at h; exact absurd h (by decide)
      have := byte_ne' (n := 43) this
      simpa using this
    · refine .inr (.inl ⟨h1, ?_⟩)
      have := byte_ne' (n := 85) h0
      simpa using this
  · exact .inl (by omega)

end Go.Proofs.YteelepiaegpkhaaGreatDoor
