/-
  PLAIN: what a spelling that is read leaves behind it; what Parse hands back.
-/
import Derived.Test.YteelepiaegpkhaaDoorPar
namespace Go.Proofs.YteelepiaegpkhaaDoor

theorem rest_len (s : ByteArray) (a : Nat) : (rest s a).length = s.size - a := by unfold rest; rw [List.length_drop, size_data]
theorem byte_ne {x : UInt8} {n : Nat} (h : ¬ x = UInt8.ofNat n) (hn : n < 256 := by decide) : ((x.toNat : Int) != (n : Int)) = true := by
  rw [bne_iff_ne]; intro e
  exact h (UInt8.toNat_inj.1 (by rw [show x.toNat = n by omega]; exact (UInt8.toNat_ofNat_of_lt' hn).symm))
theorem numP_ok {s : ByteArray} {a q : Nat} {r : Int} (ha : a + 2 ≤ s.size) (h : numP s a = .ok (r, q)) : a < q ∧ q ≤ s.size ∧ 0 ≤ r ∧ r ≤ 1114111 := by
  unfold numP at h
  have h1 := hexRun_le s (a + 2) ha
  have h2 := (hexVal_bd _ (hexRun s (a + 2)) rfl (hexRun_all s _)).1
  split at h
  · cases h
  · split at h
    · cases h
    · injection h with h; injection h with h3 h4; subst h3; subst h4; omega
theorem quoP_ok' {s : ByteArray} {a q : Nat} {r : Int} (ha : a + 1 ≤ s.size) (h : quoP s a = .ok (r, q)) : a < q ∧ q ≤ s.size ∧ 0 ≤ r ∧ r ≤ 1114111 := by
  unfold quoP at h
  obtain ⟨h1, h2, h3⟩ := runeAt_bd s (a + 1) ha
  split at h
  · cases h
  · split at h
    · cases h
    · rename_i hq
      split at h
      · cases h
      · injection h with h; injection h with h4 h5; subst h4; subst h5
        have : a + 1 + (runeAt s (a + 1)).2 < s.size := by
          rcases Nat.lt_or_ge (a + 1 + (runeAt s (a + 1)).2) s.size with hlt | hge
          · exact hlt
          · rw [rest_none hge] at hq; simp at hq
        omega
theorem runeP_ok {s : ByteArray} {a q : Nat} {r : Int} (h : runeP s a = .ok (r, q)) : a < q ∧ q ≤ s.size ∧ 0 ≤ r ∧ r ≤ 1114111 := by
  unfold runeP at h
  split at h
  · rename_i h1
    have := (List.isPrefixOf_iff_prefix.1 h1).length_le
    rw [rest_len] at this; simp at this
    exact numP_ok (by omega) h
  · split at h
    · rename_i h1
      have := (List.isPrefixOf_iff_prefix.1 h1).length_le
      rw [rest_len] at this; simp at this
      exact quoP_ok' (by omega) h
    · cases h

/-- What Parse hands back. -/
def ParseEnd (base : Nat) (r : Except (Int × Nat) (List (Int × Int))) (e : Ending) (w' : World) : Prop :=
  match r with
  | .error x => e = .returned (.tuple #[.slice none 0 0, .int .i64 x.1, .int .i64 x.2])
  | .ok l => ∃ A n c, e = .returned (.tuple #[.slice A n c, .int .i64 0, .int .i64 0]) ∧ Own w' base 37 2 A n c ((normR l).map encR)
theorem ParseEnd.err {base : Nat} {r : Except (Int × Nat) (List (Int × Int))} {x : Int × Nat} {w' : World} (h : r = .error x) :
    ParseEnd base r (.returned (.tuple #[.slice none 0 0, .int .i64 x.1, .int .i64 x.2])) w' := by rw [h]; exact rfl
theorem ParseEnd.fine {base : Nat} {r : Except (Int × Nat) (List (Int × Int))} {l : List (Int × Int)} {w' : World} {A : Option Addr} {n c : Nat} (h : r = .ok l) (ho : Own w' base 37 2 A n c ((normR l).map encR)) :
    ParseEnd base r (.returned (.tuple #[.slice A n c, .int .i64 0, .int .i64 0])) w' := by rw [h]; exact ⟨_, _, _, rfl, ho⟩

theorem itemP_ok {s : ByteArray} {a q : Nat} {x : Int × Int} (h : itemP s a = .ok (x, q)) : a < q ∧ q ≤ s.size := by
  unfold itemP at h
  cases h1 : runeP s a with
  | error e => rw [h1] at h; cases h
  | ok y =>
    obtain ⟨lo, p⟩ := y
    have b1 := runeP_ok h1
    rw [h1] at h
    by_cases h45 : (rest s p).head? = some 45
    · simp only [h45, if_true] at h
      cases h2 : runeP s (p + 1) with
      | error e => rw [h2] at h; cases h
      | ok z =>
        obtain ⟨hi, q'⟩ := z
        have b2 := runeP_ok h2
        rw [h2] at h
        simp only at h
        split at h
        · cases h
        · split at h
          · cases h
          · cases h; omega
    · simp only [h45, if_false] at h
      split at h
      · cases h
      · split at h
        · cases h
        · cases h; omega
theorem runeP_err {s : ByteArray} {a p : Nat} {e : Int} (h : runeP s a = .error (e, p)) : 21 ≤ e ∧ e ≤ 23 ∧ p ≤ a + 1 := by
  unfold runeP numP quoP at h
  repeat' split at h
  all_goals first
    | (injection h with h; injection h with h1 h2; subst h1; subst h2; omega)
    | cases h
end Go.Proofs.YteelepiaegpkhaaDoor
