/-
  PLAIN: what a spelling of a rune, an item, a whole text says: or the error and its place. No walk.
-/
import Derived.Test.YteelepiaegpkhaaDoorHex
import Derived.Lib.Strings
namespace Go.Proofs.YteelepiaegpkhaaDoor

/-- A text's bytes from a place on. -/
def rest (s : ByteArray) (a : Nat) : List UInt8 := s.data.toList.drop a
def hexRun (s : ByteArray) (a : Nat) : List UInt8 := (rest s a).takeWhile fun c => isHexN (c.toNat : Int)
/-- The first rune from a place on, and its width (0: there is none). -/
def runeAt (s : ByteArray) (a : Nat) : Nat × Nat := if a < s.size then Utf8.decode s a else (65533, 0)

def numP (s : ByteArray) (a : Nat) : Except (Int × Nat) (Int × Nat) :=
  if (hexRun s (a + 2)).length < 4 ∨ 6 < (hexRun s (a + 2)).length then .error (21, a)
  else if 1114111 < hexVal (hexRun s (a + 2)) then .error (22, a)
  else .ok (hexVal (hexRun s (a + 2)), a + 2 + (hexRun s (a + 2)).length)
def quoP (s : ByteArray) (a : Nat) : Except (Int × Nat) (Int × Nat) :=
  if (runeAt s (a + 1)).2 = 0 then .error (21, a)
  else if (rest s (a + 1 + (runeAt s (a + 1)).2)).head? ≠ some 39 then .error (21, a)
  else if (runeAt s (a + 1)).1 = 65533 ∧ (runeAt s (a + 1)).2 = 1 then .error (23, a + 1)
  else .ok ((runeAt s (a + 1)).1, a + 2 + (runeAt s (a + 1)).2)
def runeP (s : ByteArray) (a : Nat) : Except (Int × Nat) (Int × Nat) :=
  if [85, 43].isPrefixOf (rest s a) then numP s a else if [39].isPrefixOf (rest s a) then quoP s a else .error (21, a)
def itemP (s : ByteArray) (a : Nat) : Except (Int × Nat) ((Int × Int) × Nat) :=
  match runeP s a with
  | .error e => .error e
  | .ok (lo, p) =>
    match (if (rest s p).head? = some 45 then runeP s (p + 1) else .ok (lo, p)) with
    | .error e => .error e
    | .ok (hi, q) => if hi < lo then .error (20, a) else if (rest s q).head? ≠ none ∧ (rest s q).head? ≠ some 32 then .error (21, q) else .ok ((lo, hi), q)
def parseGo (s : ByteArray) : Nat → Nat → List (Int × Int) → Except (Int × Nat) (List (Int × Int))
  | 0, _, l => .ok l
  | f + 1, a, l =>
    match (rest s a).head? with
    | none => .ok l
    | some c => if c = 32 then parseGo s f (a + 1) l else
      match itemP s a with
      | .error e => .error e
      | .ok (x, q) => parseGo s f q (l ++ [x])
def parseP (s : ByteArray) : Except (Int × Nat) (List (Int × Int)) := parseGo s (s.size + 1) 0 []

theorem size_data (s : ByteArray) : s.data.toList.length = s.size := by rw [Array.length_toList]; rfl
theorem rest_head {s : ByteArray} {a : Nat} (h : a < s.size) : (rest s a).head? = some (s[a]'h) := by
  unfold rest; rw [List.head?_drop, List.getElem?_eq_getElem (by rw [size_data]; exact h)]; rfl
theorem rest_none {s : ByteArray} {a : Nat} (h : s.size ≤ a) : rest s a = [] := List.drop_of_length_le (by rw [size_data]; exact h)
theorem rest_cons {s : ByteArray} {a : Nat} (h : a < s.size) : rest s a = s[a]'h :: rest s (a + 1) := by
  unfold rest; rw [List.drop_eq_getElem_cons (by rw [size_data]; exact h)]; rfl
theorem hexRun_cons {s : ByteArray} {a : Nat} (h : a < s.size) : hexRun s a = if isHexN ((s[a]'h).toNat : Int) then s[a]'h :: hexRun s (a + 1) else [] := by
  unfold hexRun; rw [rest_cons h, List.takeWhile_cons]
theorem hexRun_none {s : ByteArray} {a : Nat} (h : s.size ≤ a) : hexRun s a = [] := by unfold hexRun; rw [rest_none h]; rfl
theorem hexRun_all (s : ByteArray) (a : Nat) : allHex (hexRun s a) := fun c hc => by
  unfold hexRun at hc
  generalize rest s a = l at hc
  induction l with
  | nil => simp at hc
  | cons x l ih =>
    rw [List.takeWhile_cons] at hc
    split at hc
    · rename_i hx
      rcases List.mem_cons.1 hc with rfl | hc
      · exact hx
      · exact ih hc
    · simp at hc
theorem hexRun_le (s : ByteArray) (a : Nat) (h : a ≤ s.size) : a + (hexRun s a).length ≤ s.size := by
  have h1 : (hexRun s a).length ≤ (rest s a).length := (List.takeWhile_sublist _).length_le
  unfold rest at h1; rw [List.length_drop, size_data] at h1; omega
theorem hexRun_extract (s : ByteArray) (a : Nat) : (s.extract a (a + (hexRun s a).length)).data.toList = hexRun s a := by
  rw [Lib.extract_data, Nat.add_sub_cancel_left]
  exact (List.prefix_iff_eq_take.1 (List.takeWhile_prefix _)).symm

/-- The decoder's width and rune. -/
theorem dec_bd (s : ByteArray) (i : Nat) (h : i < s.size) : 1 ≤ (Utf8.decode s i).2 ∧ (Utf8.decode s i).2 ≤ 4 ∧ i + (Utf8.decode s i).2 ≤ s.size ∧ (Utf8.decode s i).1 ≤ 1114111 := by
  unfold Utf8.decode
  simp only [Bool.and_eq_true, beq_iff_eq, decide_eq_true_eq]
  have hb : ∀ k, (s.get! (i + k)).toNat < 256 := fun k => (s.get! (i + k)).toNat_lt
  have h0 := hb 0; have h1 := hb 1; have h2 := hb 2; have h3 := hb 3
  generalize (s.get! (i + 0)).toNat = b0 at *
  generalize (s.get! (i + 1)).toNat = b1 at *
  generalize (s.get! (i + 2)).toNat = b2 at *
  generalize (s.get! (i + 3)).toNat = b3 at *
  split
  · simp only; omega
  · split
    · split <;> simp only [Utf8.runeError] <;> omega
    · split
      · split <;> simp only [Utf8.runeError] <;> omega
      · split
        · split
          · rename_i hv
            have : Utf8.valid (b0 % 8 * 262144 + b1 % 64 * 4096 + b2 % 64 * 64 + b3 % 64) = true := hv.2
            unfold Utf8.valid at this
            simp at this
            simp only; omega
          · simp only [Utf8.runeError]; omega
        · simp only [Utf8.runeError]; omega
theorem runeAt_bd (s : ByteArray) (a : Nat) (h : a ≤ s.size) : (runeAt s a).2 ≤ 4 ∧ a + (runeAt s a).2 ≤ s.size ∧ (runeAt s a).1 ≤ 1114111 := by
  unfold runeAt
  split
  · rename_i h; have := dec_bd s a h; omega
  · simp only; omega
end Go.Proofs.YteelepiaegpkhaaDoor
