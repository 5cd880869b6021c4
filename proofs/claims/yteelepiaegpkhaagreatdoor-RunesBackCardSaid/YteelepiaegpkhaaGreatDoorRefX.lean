/-
  kerfref02.Parse.
-/
import Derived.Test.YteelepiaegpkhaaGreatDoorRefW
import Derived.Test.YteelepiaegpkhaaGreatDoorPar2
namespace Go.Proofs.YteelepiaegpkhaaGreatDoor
open Go.RowKit

theorem itemP_of {s : ByteArray} {a p : Nat} {lo : Int} (h : runeP s a = .ok (lo, p)) : itemP s a =
    match (if (rest s p).head? = some 45 then runeP s (p + 1) else .ok (lo, p)) with
    | .error e => .error e
    | .ok (hi, q) => if hi < lo then .error (20, a) else if (rest s q).head? ≠ none ∧ (rest s q).head? ≠ some 32 then .error (21, q) else .ok ((lo, hi), q) := by
  unfold itemP; rw [h]; rfl
theorem itemP_bad {s : ByteArray} {a : Nat} {x : Int × Nat} (h : runeP s a = .error x) : itemP s a = .error x := by
  unfold itemP; rw [h]
theorem parseGo_blank {s : ByteArray} {f a : Nat} {l : List (Int × Int)} (h : a < s.size) (h32 : s[a]'h = 32) : parseGo s (f + 1) a l = parseGo s f (a + 1) l := by
  rw [parseGo, rest_head h]; simp only [h32, if_true]
theorem parseGo_item {s : ByteArray} {f a : Nat} {l : List (Int × Int)} (h : a < s.size) (h32 : ¬ s[a]'h = 32) : parseGo s (f + 1) a l = match itemP s a with
      | .error e => .error e
      | .ok (x, q) => parseGo s f q (l ++ [x]) := by
  rw [parseGo, rest_head h]; simp only [h32, if_false]; rfl
theorem parseGo_done {s : ByteArray} {f : Nat} {l : List (Int × Int)} : parseGo s f s.size l = .ok l := by
  cases f with
  | zero => rfl
  | succ f => rw [parseGo, rest_none (Nat.le_refl _)]; rfl
/-- How far Parse has come. -/
def ParseAt (s : ByteArray) (f a : Nat) (l : List (Int × Int)) : Prop := parseGo s f a l = parseP s ∧ s.size < a + f ∧ a ≤ s.size

end Go.Proofs.YteelepiaegpkhaaGreatDoor
