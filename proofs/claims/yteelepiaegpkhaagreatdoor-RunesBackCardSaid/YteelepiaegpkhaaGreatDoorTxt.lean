/-
  PLAIN: a text's runes with their places; what is kept of it, trimmed; the runs. No walk.
-/
import Derived.Test.YteelepiaegpkhaaGreatDoorPar
namespace Go.Proofs.YteelepiaegpkhaaGreatDoor

/-- A text's runes from a place on: the rune, its place, the place behind it. -/
def runesGo (s : ByteArray) : Nat → Nat → List (Nat × Nat × Nat)
  | 0, _ => []
  | f + 1, a => if a < s.size then ((Utf8.decode s a).1, a, a + (Utf8.decode s a).2) :: runesGo s f (a + (Utf8.decode s a).2) else []
def runesP (s : ByteArray) : List (Nat × Nat × Nat) := runesGo s s.size 0
theorem runesGo_end {s : ByteArray} {f a : Nat} (h : s.size ≤ a) : runesGo s f a = [] := by
  cases f with
  | zero => rfl
  | succ f => rw [runesGo, if_neg (by omega)]
theorem runesGo_step {s : ByteArray} {f a : Nat} (h : a < s.size) (hf : s.size ≤ a + f) : ∃ g, f = g + 1 ∧ runesGo s f a = ((Utf8.decode s a).1, a, a + (Utf8.decode s a).2) :: runesGo s g (a + (Utf8.decode s a).2) := by
  obtain ⟨g, rfl⟩ : ∃ g, f = g + 1 := ⟨f - 1, by omega⟩
  exact ⟨g, rfl, by rw [runesGo, if_pos h]⟩
theorem runesGo_bd {s : ByteArray} : ∀ (f a : Nat), ∀ x ∈ runesGo s f a, a ≤ x.2.1 ∧ x.2.1 < x.2.2 ∧ x.2.2 ≤ s.size ∧ x.2.2 ≤ x.2.1 + 4 ∧ x.1 ≤ 1114111
  | 0, a, x, h => by simp [runesGo] at h
  | f + 1, a, x, h => by
    rw [runesGo] at h
    split at h
    · rename_i hlt
      have hd := dec_bd s a hlt
      rcases List.mem_cons.1 h with rfl | h
      · simp only; omega
      · have := runesGo_bd f _ x h; omega
    · simp at h
theorem runesP_bd {s : ByteArray} : ∀ x ∈ runesP s, x.2.1 < x.2.2 ∧ x.2.2 ≤ s.size ∧ x.2.2 ≤ x.2.1 + 4 ∧ x.1 ≤ 1114111 := fun x h => (runesGo_bd _ _ x h).2
theorem runesGo_len {s : ByteArray} : ∀ (f a : Nat), a + (runesGo s f a).length ≤ max a s.size
  | 0, a => by simp [runesGo]; omega
  | f + 1, a => by
    rw [runesGo]
    split
    · rename_i hlt
      have hd := dec_bd s a hlt
      have := runesGo_len (s := s) f (a + (Utf8.decode s a).2)
      simp only [List.length_cons]; omega
    · simp; omega
theorem runesP_len (s : ByteArray) : (runesP s).length ≤ s.size := by have := runesGo_len (s := s) s.size 0; unfold runesP; omega

/-- The first rune of a text. -/
def firstP (s : ByteArray) : Nat × Nat := match runesP s with
  | [] => (0, 0)
  | x :: _ => (x.1, x.2.2)
theorem firstP_eq (s : ByteArray) : firstP s = if 0 < s.size then Utf8.decode s 0 else (0, 0) := by
  unfold firstP runesP
  split
  · rename_i h
    by_cases h0 : 0 < s.size
    · obtain ⟨g, _, hg⟩ := runesGo_step (s := s) (f := s.size) (a := 0) h0 (by omega)
      rw [hg] at h; simp at h
    · rw [if_neg h0]
  · rename_i x r h
    by_cases h0 : 0 < s.size
    · obtain ⟨g, _, hg⟩ := runesGo_step (s := s) (f := s.size) (a := 0) h0 (by omega)
      rw [hg] at h; injection h with h _; subst h
      simp [h0]
    · rw [runesGo_end (by omega)] at h; simp at h

/-- The runes of a text that a set holds: their spans. -/
def keepP (s : ByteArray) (l : List (Int × Int)) : List UInt8 := ((runesP s).filter fun x => hasB l x.1).flatMap fun x => (s.extract x.2.1 x.2.2).data.toList
/-- Where runes of a set stand one behind the other: 'cur': the place where a run began. -/
def runsGo (h : Int → Bool) (z : Nat) : Option Nat → List (Nat × Nat × Nat) → List (Nat × Nat)
  | none, [] => []
  | some a, [] => [(a, z)]
  | none, x :: r => if h x.1 then runsGo h z (some x.2.1) r else runsGo h z none r
  | some a, x :: r => if h x.1 then runsGo h z (some a) r else (a, x.2.1) :: runsGo h z none r
def runsP (s : ByteArray) (l : List (Int × Int)) : List (Nat × Nat) := runsGo (hasB l) s.size none (runesP s)
def trimP (s : ByteArray) (l : List (Int × Int)) : Nat × Nat :=
  ((((runesP s).filter fun x => !hasB l x.1).head?.map (·.2.1)).getD s.size, (((runesP s).filter fun x => !hasB l x.1).getLast?.map (·.2.2)).getD s.size)
def ofP (s : ByteArray) : List (Int × Int) := normR ((runesP s).map fun x => ((x.1 : Int), (x.1 : Int)))
end Go.Proofs.YteelepiaegpkhaaGreatDoor
