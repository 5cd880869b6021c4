/-
  Several texts in one, in their build order: Par, Txt, UtfP, WorP, Ka, Kb, WorQ, Par2, PropsP, UtfJ, WorR, Li, LinP, Ta, Tb, Tp, Tn, Tl, PropsQ, PropsR, PropsS, PropsT, PrintP.
-/
import Derived.Lib.Strings
import Derived.Lib.DecodeN
import Derived.Lib.RuneCountTail
import Derived.Deep.DeepMust
import Derived.Deep.RegionHeld3
import Derived.Deep.CutRange
import Derived.Lib.SlTrimSet
import Derived.Test.YtinfnfgflcjfmaaGreatDoorZHex
import Derived.Test.YtinfnfgflcjfmaaGreatDoorZ0a
/-
  PLAIN: what a spelling of a rune, an item, a whole text says: or the error and its place. No walk.
-/
namespace Go.Proofs.YtinfnfgflcjfmaaGreatDoor

/-- A text's bytes from a place on. -/
def rest (s : ByteArray) (a : Nat) : List UInt8 := s.data.toList.drop a
def hexRun (s : ByteArray) (a : Nat) : List UInt8 := (rest s a).takeWhile fun c => isHexN (c.toNat : Int)
/-- The first rune from a place on, and its width (0: there is none). -/
def runeAt (s : ByteArray) (a : Nat) : Nat × Nat := if a < s.size then Utf8.decode s a else (65533, 0)

def numP (s : ByteArray) (a : Nat) : Except (Int × Nat) (Int × Nat) :=
  if (hexRun s (a + 2)).length < 4 ∨ 6 < (hexRun s (a + 2)).length then .error (21, a)
  else if 1114111 < hexVal (hexRun s (a + 2)) then .error (22, a)
  else .ok (hexVal (hexRun s (a + 2)), a + 2 + (hexRun s (a + 2)).length)
def quoP (s : ByteArray) (a : Nat) : Except (Int × Nat) (Int × Nat) :=
  if (runeAt s (a + 1)).2 = 0 then .error (21, a)
  else if (rest s (a + 1 + (runeAt s (a + 1)).2)).head? ≠ some 39 then .error (21, a)
  else if (runeAt s (a + 1)).1 = 65533 ∧ (runeAt s (a + 1)).2 = 1 then .error (23, a + 1)
  else .ok ((runeAt s (a + 1)).1, a + 2 + (runeAt s (a + 1)).2)
def runeP (s : ByteArray) (a : Nat) : Except (Int × Nat) (Int × Nat) :=
  if [85, 43].isPrefixOf (rest s a) then numP s a else if [39].isPrefixOf (rest s a) then quoP s a else .error (21, a)
def itemP (s : ByteArray) (a : Nat) : Except (Int × Nat) ((Int × Int) × Nat) :=
  match runeP s a with
  | .error e => .error e
  | .ok (lo, p) =>
    match (if (rest s p).head? = some 45 then runeP s (p + 1) else .ok (lo, p)) with
    | .error e => .error e
    | .ok (hi, q) => if hi < lo then .error (20, a) else if (rest s q).head? ≠ none ∧ (rest s q).head? ≠ some 32 then .error (21, q) else .ok ((lo, hi), q)
def parseGo (s : ByteArray) : Nat → Nat → List (Int × Int) → Except (Int × Nat) (List (Int × Int))
  | 0, _, l => .ok l
  | f + 1, a, l =>
    match (rest s a).head? with
    | none => .ok l
    | some c => if c = 32 then parseGo s f (a + 1) l else
      match itemP s a with
      | .error e => .error e
      | .ok (x, q) => parseGo s f q (l ++ [x])
def parseP (s : ByteArray) : Except (Int × Nat) (List (Int × Int)) := parseGo s (s.size + 1) 0 []

theorem size_data (s : ByteArray) : s.data.toList.length = s.size := by rw [Array.length_toList]; rfl
theorem rest_head {s : ByteArray} {a : Nat} (h : a < s.size) : (rest s a).head? = some (s[a]'h) := by
  unfold rest; rw [List.head?_drop, List.getElem?_eq_getElem (by rw [size_data]; exact h)]; rfl
theorem rest_none {s : ByteArray} {a : Nat} (h : s.size ≤ a) : rest s a = [] := List.drop_of_length_le (by rw [size_data]; exact h)
theorem rest_cons {s : ByteArray} {a : Nat} (h : a < s.size) : rest s a = s[a]'h :: rest s (a + 1) := by
  unfold rest; rw [List.drop_eq_getElem_cons (by rw [size_data]; exact h)]; rfl
theorem hexRun_cons {s : ByteArray} {a : Nat} (h : a < s.size) : hexRun s a = if isHexN ((s[a]'h).toNat : Int) then s[a]'h :: hexRun s (a + 1) else [] := by
  unfold hexRun; rw [rest_cons h, List.takeWhile_cons]
theorem hexRun_none {s : ByteArray} {a : Nat} (h : s.size ≤ a) : hexRun s a = [] := by unfold hexRun; rw [rest_none h]; rfl
theorem hexRun_all (s : ByteArray) (a : Nat) : allHex (hexRun s a) := fun c hc => by
  unfold hexRun at hc
  generalize rest s a = l at hc
  induction l with
  | nil => simp at hc
  | cons x l ih =>
    rw [List.takeWhile_cons] at hc
    split at hc
    · rename_i hx
      rcases List.mem_cons.1 hc with rfl | hc
      · exact hx
      · exact ih hc
    · simp at hc
theorem hexRun_le (s : ByteArray) (a : Nat) (h : a ≤ s.size) : a + (hexRun s a).length ≤ s.size := by
  have h1 : (hexRun s a).length ≤ (rest s a).length := (List.takeWhile_sublist _).length_le
  unfold rest at h1; rw [List.length_drop, size_data] at h1; omega
theorem hexRun_extract (s : ByteArray) (a : Nat) : (s.extract a (a + (hexRun s a).length)).data.toList = hexRun s a := by
  rw [Lib.extract_data, Nat.add_sub_cancel_left]
  exact (List.prefix_iff_eq_take.1 (List.takeWhile_prefix _)).symm

/-- The decoder's width and rune. -/
theorem dec_bd (s : ByteArray) (i : Nat) (h : i < s.size) : 1 ≤ (Utf8.decode s i).2 ∧ (Utf8.decode s i).2 ≤ 4 ∧ i + (Utf8.decode s i).2 ≤ s.size ∧ (Utf8.decode s i).1 ≤ 1114111 := by
  unfold Utf8.decode
  simp only [Bool.and_eq_true, beq_iff_eq, decide_eq_true_eq]
  have hb : ∀ k, (s.get! (i + k)).toNat < 256 := fun k => (s.get! (i + k)).toNat_lt
  have h0 := hb 0; have h1 := hb 1; have h2 := hb 2; have h3 := hb 3
  generalize (s.get! (i + 0)).toNat = b0 at *
  generalize (s.get! (i + 1)).toNat = b1 at *
  generalize (s.get! (i + 2)).toNat = b2 at *
  generalize (s.get! (i + 3)).toNat = b3 at *
  split
  · simp only; omega
  · split
    · split <;> simp only [Utf8.runeError] <;> omega
    · split
      · split <;> simp only [Utf8.runeError] <;> omega
      · split
        · split
          · rename_i hv
            have : Utf8.valid (b0 % 8 * 262144 + b1 % 64 * 4096 + b2 % 64 * 64 + b3 % 64) = true := hv.2
            unfold Utf8.valid at this
            simp at this
            simp only; omega
          · simp only [Utf8.runeError]; omega
        · simp only [Utf8.runeError]; omega
theorem runeAt_bd (s : ByteArray) (a : Nat) (h : a ≤ s.size) : (runeAt s a).2 ≤ 4 ∧ a + (runeAt s a).2 ≤ s.size ∧ (runeAt s a).1 ≤ 1114111 := by
  unfold runeAt
  split
  · rename_i h; have := dec_bd s a h; omega
  · simp only; omega
end Go.Proofs.YtinfnfgflcjfmaaGreatDoor

/-
  PLAIN: a text's runes with their places; what is kept of it, trimmed; the runs. No walk.
-/
namespace Go.Proofs.YtinfnfgflcjfmaaGreatDoor

/-- A text's runes from a place on: the rune, its place, the place behind it. -/
def runesGo (s : ByteArray) : Nat → Nat → List (Nat × Nat × Nat)
  | 0, _ => []
  | f + 1, a => if a < s.size then ((Utf8.decode s a).1, a, a + (Utf8.decode s a).2) :: runesGo s f (a + (Utf8.decode s a).2) else []
def runesP (s : ByteArray) : List (Nat × Nat × Nat) := runesGo s s.size 0
theorem runesGo_end {s : ByteArray} {f a : Nat} (h : s.size ≤ a) : runesGo s f a = [] := by
  cases f with
  | zero => rfl
  | succ f => rw [runesGo, if_neg (by omega)]
theorem runesGo_step {s : ByteArray} {f a : Nat} (h : a < s.size) (hf : s.size ≤ a + f) : ∃ g, f = g + 1 ∧ runesGo s f a = ((Utf8.decode s a).1, a, a + (Utf8.decode s a).2) :: runesGo s g (a + (Utf8.decode s a).2) := by
  obtain ⟨g, rfl⟩ : ∃ g, f = g + 1 := ⟨f - 1, by omega⟩
  exact ⟨g, rfl, by rw [runesGo, if_pos h]⟩
theorem runesGo_bd {s : ByteArray} : ∀ (f a : Nat), ∀ x ∈ runesGo s f a, a ≤ x.2.1 ∧ x.2.1 < x.2.2 ∧ x.2.2 ≤ s.size ∧ x.2.2 ≤ x.2.1 + 4 ∧ x.1 ≤ 1114111
  | 0, a, x, h => by simp [runesGo] at h
  | f + 1, a, x, h => by
    rw [runesGo] at h
    split at h
    · rename_i hlt
      have hd := dec_bd s a hlt
      rcases List.mem_cons.1 h with rfl | h
      · simp only; omega
      · have := runesGo_bd f _ x h; omega
    · simp at h
theorem runesP_bd {s : ByteArray} : ∀ x ∈ runesP s, x.2.1 < x.2.2 ∧ x.2.2 ≤ s.size ∧ x.2.2 ≤ x.2.1 + 4 ∧ x.1 ≤ 1114111 := fun x h => (runesGo_bd _ _ x h).2
theorem runesGo_len {s : ByteArray} : ∀ (f a : Nat), a + (runesGo s f a).length ≤ max a s.size
  | 0, a => by simp [runesGo]; omega
  | f + 1, a => by
    rw [runesGo]
    split
    · rename_i hlt
      have hd := dec_bd s a hlt
      have := runesGo_len (s := s) f (a + (Utf8.decode s a).2)
      simp only [List.length_cons]; omega
    · simp; omega
theorem runesP_len (s : ByteArray) : (runesP s).length ≤ s.size := by have := runesGo_len (s := s) s.size 0; unfold runesP; omega

/-- The first rune of a text. -/
def firstP (s : ByteArray) : Nat × Nat := match runesP s with
  | [] => (0, 0)
  | x :: _ => (x.1, x.2.2)
theorem firstP_eq (s : ByteArray) : firstP s = if 0 < s.size then Utf8.decode s 0 else (0, 0) := by
  unfold firstP runesP
  split
  · rename_i h
    by_cases h0 : 0 < s.size
    · obtain ⟨g, _, hg⟩ := runesGo_step (s := s) (f := s.size) (a := 0) h0 (by omega)
      rw [hg] at h; simp at h
    · rw [if_neg h0]
  · rename_i x r h
    by_cases h0 : 0 < s.size
    · obtain ⟨g, _, hg⟩ := runesGo_step (s := s) (f := s.size) (a := 0) h0 (by omega)
      rw [hg] at h; injection h with h _; subst h
      simp [h0]
    · rw [runesGo_end (by omega)] at h; simp at h

/-- The runes of a text that a set holds: their spans. -/
def keepP (s : ByteArray) (l : List (Int × Int)) : List UInt8 := ((runesP s).filter fun x => hasB l x.1).flatMap fun x => (s.extract x.2.1 x.2.2).data.toList
/-- Where runes of a set stand one behind the other: 'cur': the place where a run began. -/
def runsGo (h : Int → Bool) (z : Nat) : Option Nat → List (Nat × Nat × Nat) → List (Nat × Nat)
  | none, [] => []
  | some a, [] => [(a, z)]
  | none, x :: r => if h x.1 then runsGo h z (some x.2.1) r else runsGo h z none r
  | some a, x :: r => if h x.1 then runsGo h z (some a) r else (a, x.2.1) :: runsGo h z none r
def runsP (s : ByteArray) (l : List (Int × Int)) : List (Nat × Nat) := runsGo (hasB l) s.size none (runesP s)
def trimP (s : ByteArray) (l : List (Int × Int)) : Nat × Nat :=
  ((((runesP s).filter fun x => !hasB l x.1).head?.map (·.2.1)).getD s.size, (((runesP s).filter fun x => !hasB l x.1).getLast?.map (·.2.2)).getD s.size)
def ofP (s : ByteArray) : List (Int × Int) := normR ((runesP s).map fun x => ((x.1 : Int), (x.1 : Int)))
end Go.Proofs.YtinfnfgflcjfmaaGreatDoor

/-
  PLAIN: a text's runes lie one behind the other; a text's beginning has the runes that it had. No walk.
-/
namespace Go.Proofs.YtinfnfgflcjfmaaGreatDoor

/-- Runes that lie one behind the other, from p to z. -/
def Contig : Nat → List (Nat × Nat × Nat) → Nat → Prop
  | p, [], z => p = z
  | p, x :: r, z => x.2.1 = p ∧ p < x.2.2 ∧ Contig x.2.2 r z
theorem runesGo_contig {s : ByteArray} : ∀ (f a : Nat), s.size ≤ a + f → a ≤ s.size → Contig a (runesGo s f a) s.size
  | 0, a, h, h2 => by simp only [runesGo, Contig]; omega
  | f + 1, a, h, h2 => by
    rw [runesGo]
    split
    · rename_i hlt
      have hd := dec_bd s a hlt
      exact ⟨rfl, by simp only; omega, runesGo_contig f _ (by simp only; omega) (by simp only; omega)⟩
    · show a = s.size; omega
theorem runesP_contig (s : ByteArray) : Contig 0 (runesP s) s.size := runesGo_contig _ _ (by omega) (by omega)
theorem runesGo_dec {s : ByteArray} : ∀ (f a : Nat), ∀ x ∈ runesGo s f a, Utf8.decode s x.2.1 = (x.1, x.2.2 - x.2.1)
  | 0, a, x, h => by simp [runesGo] at h
  | f + 1, a, x, h => by
    rw [runesGo] at h
    split at h
    · rcases List.mem_cons.1 h with rfl | h
      · simp only; rw [Nat.add_sub_cancel_left]
      · exact runesGo_dec f _ x h
    · simp at h

/- Lengths. -/
theorem extract_len (s : ByteArray) {a b : Nat} (h : b ≤ s.size) : (s.extract a b).data.toList.length = b - a := by
  rw [size_data, ByteArray.size_extract]; omega
theorem decN_same {n m b0 b1 b2 b3 c1 c2 c3 R W : Nat} (h : Lib.decodeN n b0 b1 b2 b3 = (R, W)) (hv : R ≠ 65533 ∨ W = 3) (hm : W ≤ m) (h1 : 2 ≤ W → c1 = b1) (h2 : 3 ≤ W → c2 = b2) (h3 : 4 ≤ W → c3 = b3) :
    Lib.decodeN m b0 c1 c2 c3 = (R, W) := by
  unfold Lib.decodeN at h
  split at h
  · rename_i g0
    injection h with hR hW
    subst hR; subst hW
    unfold Lib.decodeN; rw [if_pos g0]
  · rename_i g0
    split at h
    · rename_i g1
      split at h
      · rename_i g2
        injection h with hR hW
        subst hR; subst hW
        obtain rfl := h1 (by omega)
        unfold Lib.decodeN; rw [if_neg g0, if_pos ⟨g1.1, by omega, g1.2.2⟩, if_pos g2]
      · injection h with hR hW
        subst hR; subst hW
        rcases hv with hv | hv <;> omega
    · rename_i g1
      split at h
      · rename_i g2
        split at h
        · rename_i g3
          injection h with hR hW
          subst hR; subst hW
          obtain rfl := h1 (by omega)
          obtain rfl := h2 (by omega)
          unfold Lib.decodeN; rw [if_neg g0, if_neg (by omega), if_pos ⟨g2.1, ⟨by omega, g2.2.1.2⟩, by omega, g2.2.2.2⟩, if_pos g3]
        · injection h with hR hW
          subst hR; subst hW
          rcases hv with hv | hv <;> omega
      · rename_i g2
        split at h
        · rename_i g3
          split at h
          · rename_i g4
            injection h with hR hW
            subst hR; subst hW
            obtain rfl := h1 (by omega)
            obtain rfl := h2 (by omega)
            obtain rfl := h3 (by omega)
            unfold Lib.decodeN; rw [if_neg g0, if_neg (by omega), if_neg (by omega), if_pos ⟨g3.1, ⟨by omega, g3.2.1.2⟩, ⟨by omega, g3.2.2.1.2⟩, by omega, g3.2.2.2.2⟩, if_pos g4]
          · injection h with hR hW
            subst hR; subst hW
            rcases hv with hv | hv <;> omega
        · injection h with hR hW
          subst hR; subst hW
          rcases hv with hv | hv <;> omega
theorem dec_same {s t : ByteArray} {i j R W : Nat} (h : Utf8.decode s i = (R, W)) (h1 : 1 ≤ W) (hv : R ≠ 65533 ∨ W = 3) (ht : j + W ≤ t.size) (hg : ∀ k, k < W → t.get! (j + k) = s.get! (i + k)) : Utf8.decode t j = (R, W) := by
  rw [Lib.decode_at] at h ⊢
  have h0 := hg 0 (by omega)
  rw [Nat.add_zero, Nat.add_zero] at h0
  rw [h0]
  exact decN_same h hv (by omega) (fun h => by rw [hg 1 (by omega)]) (fun h => by rw [hg 2 (by omega)]) (fun h => by rw [hg 3 (by omega)])

/- A text's beginning. -/
theorem decN_bad {n b0 b1 b2 b3 R W : Nat} (h : Lib.decodeN n b0 b1 b2 b3 = (R, W)) (hv : ¬ (R ≠ 65533 ∨ W = 3)) : R = 65533 ∧ W = 1 := by
  have hR : R = 65533 := Classical.byContradiction fun k => hv (.inl k)
  have hW : W ≠ 3 := fun k => hv (.inr k)
  refine ⟨hR, ?_⟩
  unfold Lib.decodeN at h
  repeat' split at h
  all_goals (injection h with h1 h2; omega)
theorem decN_prefix {n m b0 b1 b2 b3 c1 c2 c3 R W : Nat} (h : Lib.decodeN n b0 b1 b2 b3 = (R, W)) (hmn : m ≤ n) (hm : W ≤ m) (h1 : 2 ≤ m → c1 = b1) (h2 : 3 ≤ m → c2 = b2) (h3 : 4 ≤ m → c3 = b3) (hb : ∀ R' W', Lib.decodeN m b0 c1 c2 c3 = (R', W') → W' ≤ m) :
    Lib.decodeN m b0 c1 c2 c3 = (R, W) := by
  by_cases hv : R ≠ 65533 ∨ W = 3
  · exact decN_same h hv hm (fun k => h1 (by omega)) (fun k => h2 (by omega)) (fun k => h3 (by omega))
  · obtain ⟨⟨R', W'⟩, hD⟩ : ∃ d, Lib.decodeN m b0 c1 c2 c3 = d := ⟨_, rfl⟩
    have hw := hb R' W' hD
    by_cases hv' : R' ≠ 65533 ∨ W' = 3
    · have := decN_same (m := n) (c1 := b1) (c2 := b2) (c3 := b3) hD hv' (by omega) (fun k => (h1 (by omega)).symm) (fun k => (h2 (by omega)).symm) (fun k => (h3 (by omega)).symm)
      rw [hD, ← h, this]
    · obtain ⟨rfl, rfl⟩ := decN_bad h hv
      obtain ⟨rfl, rfl⟩ := decN_bad hD hv'
      exact hD
theorem get_prefix (s : ByteArray) {z k : Nat} (hk : k < z) : (s.extract 0 z).get! k = s.get! k := by
  rw [← Lib.getD_get!', ← Lib.getD_get!', ByteArray.data_extract, Array.toList_extract, List.extract_eq_take_drop, List.getD_eq_getElem?_getD, List.getD_eq_getElem?_getD, List.drop_zero, Nat.sub_zero, List.getElem?_take_of_lt hk]
theorem dec_prefix (s : ByteArray) {z i R W : Nat} (hz : z ≤ s.size) (h : Utf8.decode s i = (R, W)) (hi : i < z) (hw : i + W ≤ z) : Utf8.decode (s.extract 0 z) i = (R, W) := by
  have hsz : (s.extract 0 z).size = z := by rw [ByteArray.size_extract]; omega
  have hb := dec_bd (s.extract 0 z) i (by omega)
  rw [Lib.decode_at] at h hb ⊢
  rw [hsz] at hb ⊢
  have h0 := get_prefix s (k := i) hi
  rw [h0] at hb ⊢
  refine decN_prefix h (by omega) (by omega) (fun k => by rw [get_prefix s (by omega)]) (fun k => by rw [get_prefix s (by omega)]) (fun k => by rw [get_prefix s (by omega)]) fun R' W' hD => ?_
  rw [hD] at hb
  simp only at hb; omega
/-- Runes up to a place where one begins. -/
theorem runesGo_prefix (s : ByteArray) {z : Nat} (hz : z ≤ s.size) : ∀ (f g a : Nat), s.size ≤ a + f → z ≤ a + g → a ≤ z → (a = z ∨ z = s.size ∨ ∃ x ∈ runesGo s f a, x.2.1 = z) → runesGo (s.extract 0 z) g a = (runesGo s f a).takeWhile fun x => decide (x.2.1 < z)
  | 0, g, a, hf, hg, ha, _ => by
    have hsz : (s.extract 0 z).size = z := by rw [ByteArray.size_extract]; omega
    rw [runesGo_end (by omega)]; rfl
  | f + 1, g, a, hf, hg, ha, hx => by
    have hsz : (s.extract 0 z).size = z := by rw [ByteArray.size_extract]; omega
    by_cases haz : a = z
    · subst haz
      rw [runesGo_end (by omega)]
      rw [runesGo]
      split
      · rw [List.takeWhile_cons, if_neg (by simp)]
      · rfl
    · have hlt : a < s.size := by omega
      have hd := dec_bd s a hlt
      obtain ⟨⟨R, W⟩, hD⟩ : ∃ d, Utf8.decode s a = d := ⟨_, rfl⟩
      rw [hD] at hd
      simp only at hd
      have hr : runesGo s (f + 1) a = (R, a, a + W) :: runesGo s f (a + W) := by rw [runesGo, if_pos hlt, hD]
      have hle : a + W ≤ z ∧ (a + W = z ∨ z = s.size ∨ ∃ x ∈ runesGo s f (a + W), x.2.1 = z) := by
        rcases hx with h | h | ⟨x, hm, h⟩
        · omega
        · exact ⟨by omega, .inr (.inl h)⟩
        · rw [hr] at hm
          rcases List.mem_cons.1 hm with rfl | hm
          · simp only at h; omega
          · have := runesGo_bd _ _ x hm
            exact ⟨by omega, .inr (.inr ⟨x, hm, h⟩)⟩
      obtain ⟨k, rfl, hk⟩ := runesGo_step (s := s.extract 0 z) (f := g) (a := a) (by omega) (by omega)
      rw [hk, hr, dec_prefix s hz hD (by omega) hle.1, List.takeWhile_cons, if_pos (by simp; omega)]
      simp only
      rw [runesGo_prefix s hz f k (a + W) (by omega) (by omega) hle.1 hle.2]
theorem runesP_prefix (s : ByteArray) {z : Nat} (hz : z ≤ s.size) (h : z = 0 ∨ z = s.size ∨ ∃ x ∈ runesP s, x.2.1 = z) : runesP (s.extract 0 z) = (runesP s).takeWhile fun x => decide (x.2.1 < z) := by
  have hsz : (s.extract 0 z).size = z := by rw [ByteArray.size_extract]; omega
  unfold runesP
  rw [hsz]
  exact runesGo_prefix s hz s.size z 0 (by omega) (by omega) (by omega) (by rcases h with h | h; exact .inl h.symm; exact .inr h)
end Go.Proofs.YtinfnfgflcjfmaaGreatDoor

/-
  PLAIN: words: where a text may be cut by the classes of its runes; what holds together; what parts. No walk.
-/
namespace Go.Proofs.YtinfnfgflcjfmaaGreatDoor

def wEnd (c : Int) : Bool := c == 3 || c == 1 || c == 2
def wHang (c : Int) : Bool := c == 4 || c == 6 || c == 5
def wLet (c : Int) : Bool := c == 10 || c == 9
def wInW (c : Int) : Bool := c == 14 || c == 13 || c == 11
def wInN (c : Int) : Bool := c == 15 || c == 13 || c == 11
def wJoin (c : Int) : Bool := wLet c || c == 16 || c == 8
/-- The number of the last rune ahead of one that hangs on nothing; -1: there is none. -/
def wBack (c : List Int) : Nat → Int
  | 0 => -1
  | i + 1 => if wHang (c.getD i 0) then wBack c i else i
def wOf (c : List Int) (i : Int) : Int := if i < 0 ∨ (c.length : Int) ≤ i then -1 else c.getD i.toNat 0
/-- The class of the first rune behind one that hangs on nothing. -/
def wOn (c : List Int) (i : Nat) : Int := (((c.drop (i + 1)).dropWhile wHang).head?).getD (-1)
def wRegGo (c : List Int) : Nat → Nat → Nat
  | 0, _ => 0
  | f + 1, i => if wOf c (wBack c i) = 7 then wRegGo c f (wBack c i).toNat + 1 else 0
def wReg (c : List Int) (i : Nat) : Nat := wRegGo c (i + 1) i
/-- Do letters and digits hold together there? -/
def wLetters (z a q n : Int) : Bool :=
  (wLet a && wLet q || wLet a && wInW q && wLet n || wLet z && wInW a && wLet q) ||
  (a == 9 && q == 11 || a == 9 && q == 12 && n == 9 || z == 9 && a == 12 && q == 9) ||
  (a == 16 && (q == 16 || wLet q) || wLet a && q == 16) ||
  (z == 16 && wInN a && q == 16 || a == 16 && wInN q && n == 16) ||
  (a == 8 && q == 8 || (wJoin a || a == 17) && q == 17 || a == 17 && wJoin q)
/-- May one cut ahead of a rune that is not the first? -/
def wCut (c : List Int) (i : Nat) : Bool :=
  let p := c.getD (i - 1) 0
  let q := c.getD i 0
  if p = 1 ∧ q = 2 then false
  else if wEnd p || wEnd q then true
  else if (p == 5 && q == 19) || (p == 18 && q == 18) || wHang q then false
  else
    let b := wBack c i
    if wLetters (wOf c (wBack c b.toNat)) (wOf c b) q (wOn c i) then false
    else !(q == 7) || wReg c i % 2 == 0
theorem wBack_lt (c : List Int) : ∀ i, wBack c i < (i : Int) ∧ -1 ≤ wBack c i
  | 0 => by simp [wBack]
  | i + 1 => by
    have ih := wBack_lt c i
    unfold wBack
    split <;> omega
theorem wBack_here {c : List Int} {i : Nat} (h : wHang (c.getD i 0) = false) : wBack c (i + 1) = i := by unfold wBack; rw [h]; rfl
theorem wOf_nat {c : List Int} {i : Nat} (h : i < c.length) : wOf c (i : Int) = c.getD i 0 := by unfold wOf; rw [if_neg (by omega), Int.toNat_natCast]

/-- Between which two classes no bound stands, whatever stands around. -/
def wGlue (a b : Int) : Bool := (wLet a && wLet b) || (a == 16 && b == 16) || (wLet a && b == 16) || (a == 16 && wLet b) || (a == 8 && b == 8) || (wHang b && !(wEnd a))
theorem wLet_iff (c : Int) : wLet c = true ↔ c = 10 ∨ c = 9 := by simp [wLet]
theorem wHang_iff (c : Int) : wHang c = true ↔ c = 4 ∨ c = 6 ∨ c = 5 := by simp [wHang, or_assoc]
theorem wEnd_iff (c : Int) : wEnd c = true ↔ c = 3 ∨ c = 1 ∨ c = 2 := by simp [wEnd, or_assoc]
theorem bool_false {b : Bool} (h : ¬ b = true) : b = false := by cases b; rfl; exact absurd rfl h
theorem wCut_glue {c : List Int} {i : Nat} (hi : i + 1 < c.length) (h : wGlue (c.getD i 0) (c.getD (i + 1) 0) = true) : wCut c (i + 1) = false := by
  unfold wCut
  rw [show i + 1 - 1 = i from rfl]
  generalize hp : c.getD i 0 = p at h
  generalize hq : c.getD (i + 1) 0 = q at h
  simp only
  by_cases h12 : p = 1 ∧ q = 2
  · rw [if_pos h12]
  · rw [if_neg h12]
    simp only [wGlue, Bool.or_eq_true, Bool.and_eq_true, wLet_iff, wHang_iff, beq_iff_eq, Bool.not_eq_true'] at h
    have hend : (wEnd p || wEnd q) = false := by
      refine bool_false fun k => ?_
      rw [Bool.or_eq_true, wEnd_iff, wEnd_iff] at k
      rcases h with h | h
      · omega
      · have := h.2
        have hpe : ¬ (p = 3 ∨ p = 1 ∨ p = 2) := fun e => by rw [(wEnd_iff p).2 e] at this; cases this
        omega
    rw [hend]
    simp only [Bool.false_eq_true, if_false]
    rcases h with h | h
    · have hh : wHang p = false := bool_false fun k => by rw [wHang_iff] at k; omega
      split
      · rfl
      · have hb : wBack c (i + 1) = i := wBack_here (by rw [hp]; exact hh)
        rw [hb, wOf_nat (by omega), hp]
        have : wLetters (wOf c (wBack c (i : Int).toNat)) p q (wOn c (i + 1)) = true := by
          generalize wOf c (wBack c (i : Int).toNat) = z
          generalize wOn c (i + 1) = n
          rcases h with (((⟨h1 | h1, h2 | h2⟩ | ⟨h1, h2⟩) | ⟨h1 | h1, h2⟩) | ⟨h1, h2 | h2⟩) | ⟨h1, h2⟩
          all_goals (rw [h1, h2]; simp [wLetters, wLet, wInW, wInN, wJoin])
        rw [this, if_pos rfl]
    · rw [if_pos]
      rw [Bool.or_eq_true]
      exact .inr ((wHang_iff q).2 h.1)
theorem wCut_end {c : List Int} {i : Nat} (h : wEnd (c.getD i 0) = true ∨ wEnd (c.getD (i + 1) 0) = true) : wCut c (i + 1) = !decide (c.getD i 0 = 1 ∧ c.getD (i + 1) 0 = 2) := by
  unfold wCut
  rw [show i + 1 - 1 = i from rfl]
  by_cases h12 : c.getD i 0 = 1 ∧ c.getD (i + 1) 0 = 2
  · rw [if_pos h12, decide_eq_true h12]; rfl
  · rw [if_neg h12, decide_eq_false h12, if_pos (by rcases h with h | h <;> rw [h] <;> simp)]; rfl
end Go.Proofs.YtinfnfgflcjfmaaGreatDoor

/-
  word: the tests of a class, walked.
-/
namespace Go.Proofs.YtinfnfgflcjfmaaGreatDoor
open Go.RowKit

set_option maxHeartbeats 400000 in
theorem klettered_any (c : Int) (w : World) : Calls Tryz.prog 64 #[.int .i64 c] w fun e w' => e = .returned (.bool (wLet c)) ∧ w = w' := by
  rcases (by omega : c = 10 ∨ c = 9 ∨ (c ≠ 10 ∧ c ≠ 9)) with rfl | rfl | ⟨h1, h2⟩
  iterate 2
    · go_enter Tryz.func64, Tryz.ntmps64
      go_wp2
      go_ret
      exact ⟨rfl, rfl⟩
  · have HV : Hid (wLet c = false) := Lib.hid (by simp [wLet, h1, h2])
    have e1 := beq_eq_false_iff_ne.2 h1
    have e2 := beq_eq_false_iff_ne.2 h2
    clear h1 h2
    go_enter Tryz.func64, Tryz.ntmps64
    go_wp2
    go_ret
    exact ⟨by rw [HV.out]; rfl, rfl⟩
set_option maxHeartbeats 400000 in
theorem kends_any (c : Int) (w : World) : Calls Tryz.prog 66 #[.int .i64 c] w fun e w' => e = .returned (.bool (wEnd c)) ∧ w = w' := by
  rcases (by omega : c = 3 ∨ c = 1 ∨ c = 2 ∨ (c ≠ 3 ∧ c ≠ 1 ∧ c ≠ 2)) with rfl | rfl | rfl | ⟨h1, h2, h3⟩
  iterate 3
    · go_enter Tryz.func66, Tryz.ntmps66
      go_wp2
      go_ret
      exact ⟨rfl, rfl⟩
  · have HV : Hid (wEnd c = false) := Lib.hid (by simp [wEnd, h1, h2, h3])
    have e1 := beq_eq_false_iff_ne.2 h1
    have e2 := beq_eq_false_iff_ne.2 h2
    have e3 := beq_eq_false_iff_ne.2 h3
    clear h1 h2 h3
    go_enter Tryz.func66, Tryz.ntmps66
    go_wp2
    go_ret
    exact ⟨by rw [HV.out]; rfl, rfl⟩
set_option maxHeartbeats 400000 in
theorem khangs_any (c : Int) (w : World) : Calls Tryz.prog 68 #[.int .i64 c] w fun e w' => e = .returned (.bool (wHang c)) ∧ w = w' := by
  rcases (by omega : c = 4 ∨ c = 6 ∨ c = 5 ∨ (c ≠ 4 ∧ c ≠ 6 ∧ c ≠ 5)) with rfl | rfl | rfl | ⟨h1, h2, h3⟩
  iterate 3
    · go_enter Tryz.func68, Tryz.ntmps68
      go_wp2
      go_ret
      exact ⟨rfl, rfl⟩
  · have HV : Hid (wHang c = false) := Lib.hid (by simp [wHang, h1, h2, h3])
    have e1 := beq_eq_false_iff_ne.2 h1
    have e2 := beq_eq_false_iff_ne.2 h2
    have e3 := beq_eq_false_iff_ne.2 h3
    clear h1 h2 h3
    go_enter Tryz.func68, Tryz.ntmps68
    go_wp2
    go_ret
    exact ⟨by rw [HV.out]; rfl, rfl⟩
set_option maxHeartbeats 400000 in
theorem kinWord_any (c : Int) (w : World) : Calls Tryz.prog 147 #[.int .i64 c] w fun e w' => e = .returned (.bool (wInW c)) ∧ w = w' := by
  rcases (by omega : c = 14 ∨ c = 13 ∨ c = 11 ∨ (c ≠ 14 ∧ c ≠ 13 ∧ c ≠ 11)) with rfl | rfl | rfl | ⟨h1, h2, h3⟩
  iterate 3
    · go_enter Tryz.func147, Tryz.ntmps147
      go_wp2
      go_ret
      exact ⟨rfl, rfl⟩
  · have HV : Hid (wInW c = false) := Lib.hid (by simp [wInW, h1, h2, h3])
    have e1 := beq_eq_false_iff_ne.2 h1
    have e2 := beq_eq_false_iff_ne.2 h2
    have e3 := beq_eq_false_iff_ne.2 h3
    clear h1 h2 h3
    go_enter Tryz.func147, Tryz.ntmps147
    go_wp2
    go_ret
    exact ⟨by rw [HV.out]; rfl, rfl⟩
set_option maxHeartbeats 400000 in
theorem kinNumber_any (c : Int) (w : World) : Calls Tryz.prog 148 #[.int .i64 c] w fun e w' => e = .returned (.bool (wInN c)) ∧ w = w' := by
  rcases (by omega : c = 15 ∨ c = 13 ∨ c = 11 ∨ (c ≠ 15 ∧ c ≠ 13 ∧ c ≠ 11)) with rfl | rfl | rfl | ⟨h1, h2, h3⟩
  iterate 3
    · go_enter Tryz.func148, Tryz.ntmps148
      go_wp2
      go_ret
      exact ⟨rfl, rfl⟩
  · have HV : Hid (wInN c = false) := Lib.hid (by simp [wInN, h1, h2, h3])
    have e1 := beq_eq_false_iff_ne.2 h1
    have e2 := beq_eq_false_iff_ne.2 h2
    have e3 := beq_eq_false_iff_ne.2 h3
    clear h1 h2 h3
    go_enter Tryz.func148, Tryz.ntmps148
    go_wp2
    go_ret
    exact ⟨by rw [HV.out]; rfl, rfl⟩
set_option maxHeartbeats 400000 in
theorem kjoined_any (c : Int) (w : World) : Calls Tryz.prog 149 #[.int .i64 c] w fun e w' => e = .returned (.bool (wJoin c)) ∧ w = w' := by
  rcases (by cases wLet c <;> simp : wLet c = true ∨ wLet c = false) with h | h
  · have HV : Hid (wJoin c = true) := Lib.hid (by simp [wJoin, h])
    go_enter Tryz.func149, Tryz.ntmps149
    go_wp2_with (go_at_call 64; refine (klettered_any _ _).mono ?_; rw [h]; rintro e w' ⟨rfl, rfl⟩)
    go_ret
    exact ⟨by rw [HV.out]; rfl, rfl⟩
  · rcases (by omega : c = 16 ∨ c = 8 ∨ (c ≠ 16 ∧ c ≠ 8)) with rfl | rfl | ⟨h1, h2⟩
    iterate 2
      · go_enter Tryz.func149, Tryz.ntmps149
        go_wp2_with (go_at_call 64; refine (klettered_any _ _).mono ?_; rintro e w' ⟨rfl, rfl⟩)
        go_ret
        exact ⟨rfl, rfl⟩
    · have HV : Hid (wJoin c = false) := Lib.hid (by simp [wJoin, h, h1, h2])
      have e1 := beq_eq_false_iff_ne.2 h1
      have e2 := beq_eq_false_iff_ne.2 h2
      clear h1 h2
      go_enter Tryz.func149, Tryz.ntmps149
      go_wp2_with (go_at_call 64; refine (klettered_any _ _).mono ?_; rw [h]; rintro e w' ⟨rfl, rfl⟩)
      go_ret
      exact ⟨by rw [HV.out]; rfl, rfl⟩
end Go.Proofs.YtinfnfgflcjfmaaGreatDoor

/-
  word: what stands ahead of a rune and behind it, walked.
-/
namespace Go.Proofs.YtinfnfgflcjfmaaGreatDoor
open Go.RowKit

def encZ (x : Int) : List Value := [.int .i64 x]
theorem encZ_ok (l : List Int) : ∀ y ∈ l.map encZ, y.length = 1 ∧ ∀ u ∈ y, u.oneCell' = true := by
  intro y hy; obtain ⟨r, _, rfl⟩ := List.mem_map.1 hy
  exact ⟨rfl, by simp [encZ, Value.oneCell']⟩
theorem Rd.atZ {w : World} {A : Option Addr} {l : List Int} {k : Nat} {x : Int} (h : Rd w 1 A (l.map encZ)) (hk : l[k]? = some x) : ∃ b off, A = some ⟨b, off, none⟩ ∧ w.cell? ⟨b, off + k, none⟩ = some (.int .i64 x) := by
  obtain ⟨b, off, rfl, hc⟩ := h (by intro e; cases l with | nil => simp at hk | cons _ _ => simp at e)
  have h0 := hc k 0 (encZ x) (.int .i64 x) (by simp [hk]) rfl
  exact ⟨b, off, rfl, by simpa using h0⟩
theorem getD_of {c : List Int} {k : Nat} {x : Int} (h : c[k]? = some x) : c.getD k 0 = x := by rw [List.getD_eq_getElem?_getD, h]; rfl

/-- The runes of a text, as the methods take them. -/
def txV (A : Option Addr) (na ca : Nat) (B : Option Addr) (n cb : Nat) (z : Int) : Array Value := #[.slice A na ca, .slice B n cb, .int .i64 z]

set_option maxRecDepth 100000 in
set_option maxHeartbeats 2000000 in
theorem kback_any (A B : Option Addr) (na ca n cb : Nat) (z : Int) (c : List Int) (i : Nat) (w : World) (hB : Rd w 1 B (c.map encZ)) (hl : c.length = n) (hi : i ≤ n) (hn : n ≤ 4000000) :
    Calls Tryz.prog 107 #[.agg #[.slice A na ca, .slice B n cb, .int .i64 z], .int .i64 i] w fun e w' => e = .returned (.int .i64 (wBack c i)) ∧ Below w.heap.size w w' := by
  have Hl := Lib.hid hl
  clear hl
  have hBz : Below w.heap.size w (w.alloc (.cells #[.slice A na ca, .slice B n cb, .int .i64 z] 81)) := (Below.refl _ _).alloc (Nat.le_refl _) _
  have hK := Blk.new w 81 #[.slice A na ca, .slice B n cb, .int .i64 z]
  have k1 := hK.cell 1
  simp only [List.getElem?_toArray, List.getElem?_cons_zero, List.getElem?_cons_succ] at k1
  go_enter Tryz.func107, Tryz.ntmps107
  go_wp2
  go_loopw [1] (fun v wr => ∃ (j : Nat) (x : Int), v = .int .i64 x ∧ x = (j : Int) - 1 ∧ j ≤ i ∧ Hid (wBack c j = wBack c i) ∧ wr = w.alloc (.cells #[.slice A na ca, .slice B n cb, .int .i64 z] 81)) (fun v _ => (intOf v + 1).toNat)
  case atStart => exact ⟨i, _, rfl, by go_num, Nat.le_refl _, Lib.hid rfl, rfl⟩
  case round =>
    obtain ⟨j, x, rfl, hx, hj, HW, rfl⟩ := hrel
    cases j with
    | zero =>
      have hx1 : x < 0 := by omega
      have hx0 : ¬ 0 ≤ x := by omega
      have HV : Hid (wBack c i = x) := Lib.hid (by rw [← HW.out, show x = -1 by omega]; rfl)
      clear hx
      go_wp2
      go_ret
      exact ⟨by rw [HV.out]; rfl, hBz⟩
    | succ j =>
      obtain rfl : x = (j : Int) := by omega
      clear hx
      obtain ⟨q, Hq⟩ : ∃ q, Hid (c[j]? = some q) := ⟨_, Lib.hid (List.getElem?_eq_getElem (by have := Hl.out; omega))⟩
      obtain ⟨b, off, rfl, hc⟩ := hB.atZ Hq.out
      have hc := cell_keep hc hBz
      cases hh : wHang q with
      | true =>
        have HW' : Hid (wBack c j = wBack c i) := Lib.hid (by rw [← HW.out, wBack, getD_of Hq.out, hh]; rfl)
        go_wp2_with (go_at_call 68; refine (khangs_any _ _).mono ?_; rw [hh]; rintro e w' ⟨rfl, rfl⟩)
        go_roundw
        case rel => exact ⟨j, _, rfl, by go_num, by omega, HW', trivial⟩
        case measure => simp [intOf]
      | false =>
        have HV : Hid (wBack c i = j) := Lib.hid (by rw [← HW.out]; exact wBack_here (by rw [getD_of Hq.out]; exact hh))
        go_wp2_with (go_at_call 68; refine (khangs_any _ _).mono ?_; rw [hh]; rintro e w' ⟨rfl, rfl⟩)
        go_ret
        exact ⟨by rw [HV.out]; rfl, hBz⟩

set_option maxRecDepth 100000 in
set_option maxHeartbeats 1000000 in
theorem kof_any (A B : Option Addr) (na ca n cb : Nat) (z : Int) (c : List Int) (i : Int) (w : World) (hB : Rd w 1 B (c.map encZ)) (hl : c.length = n) (_hn : n ≤ 4000000) (hi : -10 ≤ i ∧ i ≤ 4000000) :
    Calls Tryz.prog 109 #[.agg #[.slice A na ca, .slice B n cb, .int .i64 z], .int .i64 i] w fun e w' => e = .returned (.int .i64 (wOf c i)) ∧ Below w.heap.size w w' := by
  have hBz : Below w.heap.size w (w.alloc (.cells #[.slice A na ca, .slice B n cb, .int .i64 z] 81)) := (Below.refl _ _).alloc (Nat.le_refl _) _
  have hK := Blk.new w 81 #[.slice A na ca, .slice B n cb, .int .i64 z]
  have k1 := hK.cell 1
  simp only [List.getElem?_toArray, List.getElem?_cons_zero, List.getElem?_cons_succ] at k1
  rcases (by omega : i < 0 ∨ (¬ i < 0 ∧ (n : Int) ≤ i) ∨ (0 ≤ i ∧ i < n)) with h | ⟨h, h2⟩ | ⟨h, h2⟩
  · have HV : Hid (wOf c i = -1) := Lib.hid (by unfold wOf; rw [if_pos (.inl h)])
    go_enter Tryz.func109, Tryz.ntmps109
    go_wp2
    go_ret
    exact ⟨by rw [HV.out]; rfl, hBz⟩
  · have HV : Hid (wOf c i = -1) := Lib.hid (by unfold wOf; rw [if_pos (.inr (by omega))])
    clear hl
    go_enter Tryz.func109, Tryz.ntmps109
    go_wp2
    go_ret
    exact ⟨by rw [HV.out]; rfl, hBz⟩
  · obtain ⟨k, rfl⟩ : ∃ k : Nat, i = k := ⟨i.toNat, by omega⟩
    have hk : k < n := by omega
    obtain ⟨q, Hq⟩ : ∃ q, Hid (c[k]? = some q) := ⟨_, Lib.hid (List.getElem?_eq_getElem (by omega))⟩
    obtain ⟨b, off, rfl, hc⟩ := hB.atZ Hq.out
    have hc := cell_keep hc hBz
    have HV : Hid (wOf c (k : Int) = q) := Lib.hid (by rw [wOf_nat (by omega), getD_of Hq.out])
    clear hl
    go_enter Tryz.func109, Tryz.ntmps109
    go_wp2
    go_ret
    exact ⟨by rw [HV.out]; rfl, hBz⟩

theorem wOf_bd (c : List Int) (hc : ∀ x ∈ c, 0 ≤ x ∧ x ≤ 64) (i : Int) : -1 ≤ wOf c i ∧ wOf c i ≤ 64 := by
  unfold wOf
  split
  · omega
  · rename_i h
    have hk : i.toNat < c.length := by omega
    have := hc _ (List.getElem_mem hk)
    rw [List.getD_eq_getElem?_getD, List.getElem?_eq_getElem hk]
    simp only [Option.getD_some]
    omega

set_option maxRecDepth 100000 in
set_option maxHeartbeats 2000000 in
theorem kon_any (A B : Option Addr) (na ca n cb : Nat) (z : Int) (c : List Int) (i : Nat) (w : World) (hB : Rd w 1 B (c.map encZ)) (hl : c.length = n) (hi : i < n) (hn : n ≤ 3000000) :
    Calls Tryz.prog 110 #[.agg #[.slice A na ca, .slice B n cb, .int .i64 z], .int .i64 i] w fun e w' => e = .returned (.int .i64 (wOn c i)) ∧ Below w.heap.size w w' := by
  have Hl := Lib.hid hl
  clear hl
  have hBz : Below w.heap.size w (w.alloc (.cells #[.slice A na ca, .slice B n cb, .int .i64 z] 81)) := (Below.refl _ _).alloc (Nat.le_refl _) _
  have hK := Blk.new w 81 #[.slice A na ca, .slice B n cb, .int .i64 z]
  have k0 := hK.cell 0
  have k1 := hK.cell 1
  have k2 := hK.cell 2
  simp only [List.getElem?_toArray, List.getElem?_cons_zero, List.getElem?_cons_succ] at k0 k1 k2
  have HO := Lib.hid (fun (j : Nat) (hj : j ≤ n) => kof_any A B na ca n cb z c j _ (hB.below hBz) Hl.out (by omega) (by omega))
  go_enter Tryz.func110, Tryz.ntmps110
  go_wp2
  go_loopw [1] (fun v wr => ∃ j : Nat, v = .int .i64 j ∧ j ≤ n ∧ Hid (((c.drop j).dropWhile wHang).head?.getD (-1) = wOn c i) ∧ wr = w.alloc (.cells #[.slice A na ca, .slice B n cb, .int .i64 z] 81)) (fun v _ => n - (intOf v).toNat)
  case atStart => exact ⟨i + 1, by go_num, by omega, Lib.hid rfl, rfl⟩
  case round =>
    obtain ⟨j, rfl, hj, HW, rfl⟩ := hrel
    by_cases hlt : j < n
    · obtain ⟨q, Hq⟩ : ∃ q, Hid (c[j]? = some q) := ⟨_, Lib.hid (List.getElem?_eq_getElem (by have := Hl.out; omega))⟩
      have hd : Hid (c.drop j = q :: c.drop (j + 1)) := Lib.hid (by
        obtain ⟨h1, h2⟩ := List.getElem?_eq_some_iff.1 Hq.out
        rw [List.drop_eq_getElem_cons h1, h2])
      obtain ⟨b, off, e0, hc⟩ := hB.atZ Hq.out
      have hc := cell_keep hc hBz
      cases hh : wHang q with
      | true =>
        have HW' : Hid (((c.drop (j + 1)).dropWhile wHang).head?.getD (-1) = wOn c i) := Lib.hid (by rw [← HW.out, hd.out, List.dropWhile_cons, hh]; rfl)
        subst e0
        go_wp2_with (go_at_call 68; refine (khangs_any _ _).mono ?_; rw [hh]; rintro e w' ⟨rfl, rfl⟩)
        go_roundw
        case rel => exact ⟨j + 1, by go_num, by omega, HW', trivial⟩
        case measure => simp [intOf]; omega
      | false =>
        have HV : Hid (wOf c (j : Int) = wOn c i) := Lib.hid (by rw [← HW.out, hd.out, List.dropWhile_cons, hh, wOf_nat (by have := Hl.out; omega), getD_of Hq.out]; rfl)
        have HOj := Lib.hid (HO.out j hj)
        subst e0
        clear HO
        go_wp2_with (first | (go_at_call 68; refine (khangs_any _ _).mono ?_; rw [hh]; rintro e w' ⟨rfl, rfl⟩) | (go_at_call 109; refine HOj.out.mono ?_; rintro e w' ⟨rfl, hb⟩))
        go_ret
        exact ⟨by rw [HV.out]; rfl, hBz.trans (hb.mono hBz.size)⟩
    · obtain rfl : j = n := by omega
      have HV : Hid (wOf c (j : Int) = wOn c i) := Lib.hid (by
        rw [← HW.out, List.drop_eq_nil_of_le (by have := Hl.out; omega)]
        unfold wOf
        rw [if_pos (.inr (by have := Hl.out; omega))]; rfl)
      have HOj := Lib.hid (HO.out j hj)
      clear HO
      go_wp2_with (go_at_call 109; refine HOj.out.mono ?_; rintro e w' ⟨rfl, hb⟩)
      go_ret
      exact ⟨by rw [HV.out]; rfl, hBz.trans (hb.mono hBz.size)⟩

/-- How far the count of regions has come. -/
def RegAt (c : List Int) (i k : Nat) (x : Int) : Prop := -1 ≤ x ∧ (k : Int) + x < i ∧ ∃ f j, x = wBack c j ∧ j < f ∧ k + wRegGo c f j = wReg c i
theorem regAt_first (c : List Int) (i : Nat) : RegAt c i 0 (wBack c i) := ⟨(wBack_lt c i).2, by have := (wBack_lt c i).1; omega, i + 1, i, rfl, by omega, by rw [Nat.zero_add]; rfl⟩
theorem regAt_next {c : List Int} {i k : Nat} {x : Int} (h : RegAt c i k x) (h7 : wOf c x = 7) : ∃ m : Nat, x = m ∧ m < c.length ∧ RegAt c i (k + 1) (wBack c m) := by
  obtain ⟨h1, h2, f, j, rfl, hf, hk⟩ := h
  have h0 : 0 ≤ wBack c j ∧ wBack c j < c.length := by
    unfold wOf at h7
    split at h7
    · omega
    · omega
  obtain ⟨m, hm⟩ : ∃ m : Nat, wBack c j = m := ⟨(wBack c j).toNat, by omega⟩
  rw [hm] at h0 h2 h7 ⊢
  cases f with
  | zero => omega
  | succ f =>
    rw [wRegGo, hm, if_pos h7, Int.toNat_natCast] at hk
    have hl := (wBack_lt c m)
    have hj := (wBack_lt c j).1
    exact ⟨m, rfl, by omega, hl.2, by omega, f, m, rfl, by omega, by omega⟩
theorem regAt_end {c : List Int} {i k : Nat} {x : Int} (h : RegAt c i k x) (h7 : wOf c x ≠ 7) : k = wReg c i := by
  obtain ⟨h1, h2, f, j, rfl, hf, hk⟩ := h
  cases f with
  | zero => omega
  | succ f => rw [wRegGo, if_neg h7] at hk; omega

set_option maxRecDepth 100000 in
set_option maxHeartbeats 2000000 in
theorem kregions_any (A B : Option Addr) (na ca n cb : Nat) (z : Int) (c : List Int) (i : Nat) (w : World) (hB : Rd w 1 B (c.map encZ)) (hl : c.length = n) (hi : i ≤ n) (hn : n ≤ 3000000) :
    Calls Tryz.prog 111 #[.agg #[.slice A na ca, .slice B n cb, .int .i64 z], .int .i64 i] w fun e w' => e = .returned (.int .i64 (wReg c i : Nat)) ∧ Below w.heap.size w w' := by
  have Hl := Lib.hid hl
  clear hl
  have hBz : Below w.heap.size w (w.alloc (.cells #[.slice A na ca, .slice B n cb, .int .i64 z] 81)) := (Below.refl _ _).alloc (Nat.le_refl _) _
  have hK := Blk.new w 81 #[.slice A na ca, .slice B n cb, .int .i64 z]
  have HOf := Lib.hid (fun (j : Int) W (h : Below w.heap.size w W) (hj : -10 ≤ j ∧ j ≤ 4000000) => kof_any A B na ca n cb z c j W (hB.below h) Hl.out (by omega) hj)
  have HBk := Lib.hid (fun (j : Nat) W (h : Below w.heap.size w W) (hj : j ≤ n) => kback_any A B na ca n cb z c j W (hB.below h) Hl.out hj (by omega))
  have HR0 := Lib.hid (regAt_first c i)
  have hs0 : w.heap.size < (w.alloc (.cells #[.slice A na ca, .slice B n cb, .int .i64 z] 81)).heap.size := by simp
  have k0 := hK.cell 0
  have k1 := hK.cell 1
  have k2 := hK.cell 2
  simp only [List.getElem?_toArray, List.getElem?_cons_zero, List.getElem?_cons_succ] at k0 k1 k2
  go_enter Tryz.func111, Tryz.ntmps111
  go_wp2_with fail
  refine (HBk.out i _ hBz hi).mono ?_
  generalize wBack c i = x0 at HR0
  rintro e w1 ⟨rfl, hb1⟩
  replace k0 := cell_keep k0 hb1
  replace k1 := cell_keep k1 hb1
  replace k2 := cell_keep k2 hb1
  have hB1 := hBz.trans (hb1.mono hBz.size)
  clear hBz hb1
  go_wp2_with fail
  go_loopw [1, 5] (fun u v wr => ∃ (x : Int) (k : Nat), u = .int .i64 x ∧ v = .int .i64 k ∧ Hid (RegAt c i k x) ∧ Below w.heap.size w wr ∧ wr.cell? ⟨w.heap.size, 0, none⟩ = some (.slice A na ca) ∧ wr.cell? ⟨w.heap.size, 1, none⟩ = some (.slice B n cb) ∧ wr.cell? ⟨w.heap.size, 2, none⟩ = some (.int .i64 z)) (fun u _ _ => (intOf u + 1).toNat)
  case atStart => exact ⟨_, 0, rfl, rfl, HR0, hB1, k0, k1, k2⟩
  case round =>
    clear k0 k1 k2 hB1
    obtain ⟨x, k, rfl, rfl, HR, hb, k0, k1, k2⟩ := hrel
    have hx1 := HR.out.1
    have hx2 := HR.out.2.1
    have HOx := Lib.hid (HOf.out x wr hb (by omega))
    by_cases h7 : wOf c x = 7
    · rw [h7] at HOx
      obtain ⟨m, rfl, hm, hR'⟩ := regAt_next HR.out h7
      have HR' := Lib.hid hR'
      have hm2 : m ≤ n := by have := Hl.out; omega
      clear hR' h7 hm HR
      have hx3 := HR'.out.1
      have hx4 := HR'.out.2.1
      go_wp2_with fail
      refine HOx.out.mono ?_
      rintro e w2 ⟨rfl, hb2⟩
      replace k0 := cell_keep k0 hb2
      replace k1 := cell_keep k1 hb2
      replace k2 := cell_keep k2 hb2
      have hbb := below_step hb hb2 hb.size
      go_wp2_with fail
      refine (HBk.out m w2 hbb hm2).mono ?_
      have hlt : wBack c m < (m : Int) := (wBack_lt c m).1
      generalize wBack c m = y at HR' hx3 hx4 hlt
      rintro e w3 ⟨rfl, hb3⟩
      replace k0 := cell_keep k0 hb3
      replace k1 := cell_keep k1 hb3
      replace k2 := cell_keep k2 hb3
      have hbc := below_step hbb hb3 hbb.size
      go_wp2
      go_roundw
      case rel => exact ⟨y, k + 1, rfl, by go_num, HR', hbc, k0, k1, k2⟩
      case measure => simp [intOf]; omega
    · have HV : Hid (k = wReg c i) := Lib.hid (regAt_end HR.out h7)
      have e7 : (wOf c x == 7) = false := beq_eq_false_iff_ne.2 h7
      clear h7
      generalize wOf c x = y at HOx e7
      go_wp2_with fail
      refine HOx.out.mono ?_
      rintro e w2 ⟨rfl, hb2⟩
      go_wp2
      go_ret
      exact ⟨by rw [HV.out]; rfl, below_step hb hb2 hb.size⟩
end Go.Proofs.YtinfnfgflcjfmaaGreatDoor

/-
  PLAIN: words: a line end parts a text: the cuts are those of both sides. No walk.
-/
namespace Go.Proofs.YtinfnfgflcjfmaaGreatDoor

theorem wRegGo_fuel (c : List Int) : ∀ (f g i : Nat), i < f → i < g → wRegGo c f i = wRegGo c g i
  | 0, _, _, h, _ => by omega
  | _, 0, _, _, h => by omega
  | f + 1, g + 1, i, hf, hg => by
    unfold wRegGo
    split
    · rename_i h7
      have hb := wBack_lt c i
      have h0 : 0 ≤ wBack c i := by
        rcases Int.lt_or_le (wBack c i) 0 with h | h
        · have : wOf c (wBack c i) = -1 := by unfold wOf; rw [if_pos (.inl h)]
          omega
        · exact h
      rw [wRegGo_fuel c f g _ (by omega) (by omega)]
    · rfl
section
variable {A B : List Int}
theorem gw_left {i : Nat} (h : i < A.length) : (A ++ 2 :: B).getD i 0 = A.getD i 0 := by
  rw [List.getD_eq_getElem?_getD, List.getD_eq_getElem?_getD, List.getElem?_append_left h]
theorem gw_mid : (A ++ 2 :: B).getD A.length 0 = 2 := by
  rw [List.getD_eq_getElem?_getD, List.getElem?_append_right (Nat.le_refl _), Nat.sub_self]; rfl
theorem gw_right (j : Nat) : (A ++ 2 :: B).getD (A.length + 1 + j) 0 = B.getD j 0 := by
  rw [List.getD_eq_getElem?_getD, List.getD_eq_getElem?_getD, List.getElem?_append_right (by omega), show A.length + 1 + j - A.length = j + 1 by omega, List.getElem?_cons_succ]
theorem back_left : ∀ {i : Nat}, i ≤ A.length → wBack (A ++ 2 :: B) i = wBack A i
  | 0, _ => rfl
  | i + 1, h => by
    unfold wBack
    rw [gw_left (by omega), back_left (by omega)]
theorem of_left {i : Int} (h : i < A.length) : wOf (A ++ 2 :: B) i = wOf A i := by
  unfold wOf
  by_cases h0 : i < 0
  · rw [if_pos (.inl h0), if_pos (.inl h0)]
  · rw [if_neg (by rw [List.length_append, List.length_cons]; omega), if_neg (by omega), gw_left (by omega)]
theorem drop_hang : ∀ (l m : List Int), ((l ++ 2 :: m).dropWhile wHang).head?.getD (-1) = (l.dropWhile wHang).head?.getD (-1) ∨ (l.dropWhile wHang).head?.getD (-1) = -1 ∧ ((l ++ 2 :: m).dropWhile wHang).head?.getD (-1) = 2
  | [], m => .inr ⟨rfl, rfl⟩
  | x :: l, m => by
    rw [List.cons_append, List.dropWhile_cons, List.dropWhile_cons]
    split
    · exact drop_hang l m
    · exact .inl rfl
theorem on_left {i : Nat} (h : i < A.length) : wOn (A ++ 2 :: B) i = wOn A i ∨ wOn A i = -1 ∧ wOn (A ++ 2 :: B) i = 2 := by
  unfold wOn
  rw [List.drop_append_of_le_length (by omega)]
  exact drop_hang _ _
theorem letters_n (z a q : Int) : wLetters z a q 2 = wLetters z a q (-1) := by unfold wLetters; simp [wLet]
theorem letters_z (a q n : Int) : wLetters 2 a q n = wLetters (-1) a q n := by unfold wLetters; simp [wLet]
theorem letters_a {a : Int} (h : a = 2 ∨ a = -1) (z q n : Int) : wLetters z a q n = false := by
  unfold wLetters
  rcases h with rfl | rfl <;> simp [wLet, wInW, wInN, wJoin]
theorem regGo_left : ∀ (f : Nat) {i : Nat}, i ≤ A.length → wRegGo (A ++ 2 :: B) f i = wRegGo A f i
  | 0, _, _ => rfl
  | f + 1, i, h => by
    have hb := wBack_lt A i
    unfold wRegGo
    rw [back_left h, of_left (by omega), regGo_left f (by omega)]
theorem cut_left {i : Nat} (h : i < A.length) : wCut (A ++ 2 :: B) i = wCut A i := by
  unfold wCut
  dsimp only
  have hb := wBack_lt A i
  have hb2 := wBack_lt A (wBack A i).toNat
  rw [gw_left h, gw_left (by omega : i - 1 < A.length), back_left (i := i) (by omega), back_left (i := (wBack A i).toNat) (by omega), of_left (i := wBack A i) (by omega), of_left (i := wBack A (wBack A i).toNat) (by omega)]
  have hr : wReg (A ++ 2 :: B) i = wReg A i := regGo_left _ (by omega)
  rw [hr]
  rcases on_left (B := B) h with e | ⟨e1, e2⟩
  · rw [e]
  · rw [e1, e2]
    simp only [letters_n]
theorem back_right : ∀ (j : Nat), wBack (A ++ 2 :: B) (A.length + 1 + j) = if wBack B j = -1 then (A.length : Int) else A.length + 1 + wBack B j
  | 0 => by
    show wBack _ (A.length + 1) = _
    rw [wBack_here (by rw [gw_mid]; rfl)]; rfl
  | j + 1 => by
    have ih := back_right j
    have hb := wBack_lt B j
    show wBack _ ((A.length + 1 + j) + 1) = _
    rw [wBack, gw_right, ih, wBack]
    by_cases hh : wHang (B.getD j 0) = true
    · simp only [hh, if_true]
    · simp only [hh]
      simp only [Bool.false_eq_true, if_false]
      rw [if_neg (by omega)]; omega
theorem of_right (j : Nat) (hj : j ≤ B.length) : wOf (A ++ 2 :: B) (wBack (A ++ 2 :: B) (A.length + 1 + j)) = if wBack B j = -1 then 2 else wOf B (wBack B j) := by
  have hb := wBack_lt B j
  rw [back_right]
  split
  · rw [wOf_nat (by rw [List.length_append, List.length_cons]; omega), gw_mid]
  · rename_i hne
    obtain ⟨k, hk⟩ : ∃ k : Nat, wBack B j = k := ⟨(wBack B j).toNat, by omega⟩
    rw [hk, show (A.length : Int) + 1 + (k : Int) = ((A.length + 1 + k : Nat) : Int) by omega, wOf_nat (by rw [List.length_append, List.length_cons]; omega), gw_right, wOf_nat (by omega)]
theorem on_right (j : Nat) : wOn (A ++ 2 :: B) (A.length + 1 + j) = wOn B j := by
  unfold wOn
  rw [show A.length + 1 + j + 1 = A.length + (1 + (j + 1)) by omega, ← List.drop_drop, List.drop_left, ← List.drop_drop]; rfl
theorem regGo_right : ∀ (f j : Nat), j < f → j ≤ B.length → wRegGo (A ++ 2 :: B) (A.length + 1 + f) (A.length + 1 + j) = wRegGo B f j
  | 0, _, h, _ => by omega
  | f + 1, j, h, hj => by
    have hb := wBack_lt B j
    show wRegGo _ ((A.length + 1 + f) + 1) _ = _
    rw [wRegGo, of_right j hj, wRegGo]
    by_cases h0 : wBack B j = -1
    · rw [if_pos h0, if_neg (by omega), h0, if_neg (by unfold wOf; rw [if_pos (.inl (by omega))]; omega)]
    · rw [if_neg h0]
      split
      · rw [back_right, if_neg h0]
        have e : ((A.length : Int) + 1 + wBack B j).toNat = A.length + 1 + (wBack B j).toNat := by omega
        rw [e, regGo_right f _ (by omega) (by omega)]
      · rfl
theorem cut_right {j : Nat} (hj : j + 1 < B.length) : wCut (A ++ 2 :: B) (A.length + 1 + (j + 1)) = wCut B (j + 1) := by
  have hr : wReg (A ++ 2 :: B) (A.length + 1 + (j + 1)) = wReg B (j + 1) := by
    unfold wReg
    rw [show A.length + 1 + (j + 1) + 1 = A.length + 1 + (j + 1 + 1) by omega]
    exact regGo_right _ _ (by omega) (by omega)
  unfold wCut
  dsimp only
  rw [show A.length + 1 + (j + 1) - 1 = A.length + 1 + j by omega, show j + 1 - 1 = j by omega, gw_right, gw_right, hr, on_right, of_right _ (by omega), back_right]
  have hb := wBack_lt B (j + 1)
  by_cases h0 : wBack B (j + 1) = -1
  · simp only [h0, if_true]
    have ha : wOf B (-1) = -1 := by unfold wOf; rw [if_pos (.inl (by omega))]
    rw [ha]
    simp only [letters_a (.inl rfl : (2 : Int) = 2 ∨ (2 : Int) = -1), letters_a (.inr rfl : (-1 : Int) = 2 ∨ (-1 : Int) = -1)]
  · simp only [h0, if_false]
    obtain ⟨k, hk⟩ : ∃ k : Nat, wBack B (j + 1) = k := ⟨(wBack B (j + 1)).toNat, by omega⟩
    rw [hk] at hb ⊢
    rw [show ((A.length : Int) + 1 + (k : Int)).toNat = A.length + 1 + k by omega, Int.toNat_natCast, of_right k (by omega)]
    by_cases h1 : wBack B k = -1
    · have ha : wOf B (-1) = -1 := by unfold wOf; rw [if_pos (.inl (by omega))]
      simp only [h1, if_true, ha, letters_z]
    · simp only [h1, if_false]
theorem cut_mid (h : A.getD (A.length - 1) 0 ≠ 1) (hA : A ≠ []) : wCut (A ++ 2 :: B) A.length = true := by
  obtain ⟨i, hi⟩ : ∃ i, A.length = i + 1 := ⟨A.length - 1, by have := List.length_pos_iff.2 hA; omega⟩
  have hm := gw_mid (A := A) (B := B)
  rw [hi] at hm h
  rw [hi, wCut_end (.inr (by rw [hm]; rfl)), gw_left (by omega)]
  rw [Nat.add_sub_cancel] at h
  rw [decide_eq_false (fun k => h k.1)]; rfl
theorem cut_behind : wCut (A ++ 2 :: B) (A.length + 1) = true := by
  rw [wCut_end (.inl (by rw [gw_mid]; rfl)), gw_mid, decide_eq_false (by omega)]; rfl
end
end Go.Proofs.YtinfnfgflcjfmaaGreatDoor

/-
  PLAIN: what a spelling that is read leaves behind it; what Parse hands back.
-/
namespace Go.Proofs.YtinfnfgflcjfmaaGreatDoor

theorem rest_len (s : ByteArray) (a : Nat) : (rest s a).length = s.size - a := by unfold rest; rw [List.length_drop, size_data]
theorem byte_ne {x : UInt8} {n : Nat} (h : ¬ x = UInt8.ofNat n) (hn : n < 256 := by decide) : ((x.toNat : Int) != (n : Int)) = true := by
  rw [bne_iff_ne]; intro e
  exact h (UInt8.toNat_inj.1 (by rw [show x.toNat = n by omega]; exact (UInt8.toNat_ofNat_of_lt' hn).symm))
theorem numP_ok {s : ByteArray} {a q : Nat} {r : Int} (ha : a + 2 ≤ s.size) (h : numP s a = .ok (r, q)) : a < q ∧ q ≤ s.size ∧ 0 ≤ r ∧ r ≤ 1114111 := by
  unfold numP at h
  have h1 := hexRun_le s (a + 2) ha
  have h2 := (hexVal_bd _ (hexRun s (a + 2)) rfl (hexRun_all s _)).1
  split at h
  · cases h
  · split at h
    · cases h
    · injection h with h; injection h with h3 h4; subst h3; subst h4; omega
theorem quoP_ok' {s : ByteArray} {a q : Nat} {r : Int} (ha : a + 1 ≤ s.size) (h : quoP s a = .ok (r, q)) : a < q ∧ q ≤ s.size ∧ 0 ≤ r ∧ r ≤ 1114111 := by
  unfold quoP at h
  obtain ⟨h1, h2, h3⟩ := runeAt_bd s (a + 1) ha
  split at h
  · cases h
  · split at h
    · cases h
    · rename_i hq
      split at h
      · cases h
      · injection h with h; injection h with h4 h5; subst h4; subst h5
        have : a + 1 + (runeAt s (a + 1)).2 < s.size := by
          rcases Nat.lt_or_ge (a + 1 + (runeAt s (a + 1)).2) s.size with hlt | hge
          · exact hlt
          · rw [rest_none hge] at hq; simp at hq
        omega
theorem runeP_ok {s : ByteArray} {a q : Nat} {r : Int} (h : runeP s a = .ok (r, q)) : a < q ∧ q ≤ s.size ∧ 0 ≤ r ∧ r ≤ 1114111 := by
  unfold runeP at h
  split at h
  · rename_i h1
    have := (List.isPrefixOf_iff_prefix.1 h1).length_le
    rw [rest_len] at this; simp at this
    exact numP_ok (by omega) h
  · split at h
    · rename_i h1
      have := (List.isPrefixOf_iff_prefix.1 h1).length_le
      rw [rest_len] at this; simp at this
      exact quoP_ok' (by omega) h
    · cases h

/-- What Parse hands back. -/
def ParseEnd (base : Nat) (r : Except (Int × Nat) (List (Int × Int))) (e : Ending) (w' : World) : Prop :=
  match r with
  | .error x => e = .returned (.tuple #[.slice none 0 0, .int .i64 x.1, .int .i64 x.2])
  | .ok l => ∃ A n c, e = .returned (.tuple #[.slice A n c, .int .i64 0, .int .i64 0]) ∧ Own w' base 139 2 A n c ((normR l).map encR)
theorem ParseEnd.err {base : Nat} {r : Except (Int × Nat) (List (Int × Int))} {x : Int × Nat} {w' : World} (h : r = .error x) :
    ParseEnd base r (.returned (.tuple #[.slice none 0 0, .int .i64 x.1, .int .i64 x.2])) w' := by rw [h]; exact rfl
theorem ParseEnd.fine {base : Nat} {r : Except (Int × Nat) (List (Int × Int))} {l : List (Int × Int)} {w' : World} {A : Option Addr} {n c : Nat} (h : r = .ok l) (ho : Own w' base 139 2 A n c ((normR l).map encR)) :
    ParseEnd base r (.returned (.tuple #[.slice A n c, .int .i64 0, .int .i64 0])) w' := by rw [h]; exact ⟨_, _, _, rfl, ho⟩

theorem itemP_ok {s : ByteArray} {a q : Nat} {x : Int × Int} (h : itemP s a = .ok (x, q)) : a < q ∧ q ≤ s.size := by
  unfold itemP at h
  cases h1 : runeP s a with
  | error e => rw [h1] at h; cases h
  | ok y =>
    obtain ⟨lo, p⟩ := y
    have b1 := runeP_ok h1
    rw [h1] at h
    by_cases h45 : (rest s p).head? = some 45
    · simp only [h45, if_true] at h
      cases h2 : runeP s (p + 1) with
      | error e => rw [h2] at h; cases h
      | ok z =>
        obtain ⟨hi, q'⟩ := z
        have b2 := runeP_ok h2
        rw [h2] at h
        simp only at h
        split at h
        · cases h
        · split at h
          · cases h
          · cases h; omega
    · simp only [h45, if_false] at h
      split at h
      · cases h
      · split at h
        · cases h
        · cases h; omega
theorem runeP_err {s : ByteArray} {a p : Nat} {e : Int} (h : runeP s a = .error (e, p)) : 21 ≤ e ∧ e ≤ 23 ∧ p ≤ a + 1 := by
  unfold runeP numP quoP at h
  repeat' split at h
  all_goals first
    | (injection h with h; injection h with h1 h2; subst h1; subst h2; omega)
    | cases h
end Go.Proofs.YtinfnfgflcjfmaaGreatDoor

/-
  PLAIN: lines of a database: where a remark begins, where a line is parted; blanks at both ends. No walk.
-/
namespace Go.Proofs.YtinfnfgflcjfmaaGreatDoor

def bytesOf (l : List UInt8) : ByteArray := ⟨l.toArray⟩
theorem bytesOf_list (l : List UInt8) : (bytesOf l).data.toList = l := by simp [bytesOf]
theorem bytesOf_size (l : List UInt8) : (bytesOf l).size = l.length := by rw [← size_data, bytesOf_list]
theorem bytesOf_get (l : List UInt8) (k : Nat) : (bytesOf l).get! k = l.getD k 0 := by rw [← Lib.getD_get!', bytesOf_list]
theorem bytesOf_data (s : ByteArray) : bytesOf s.data.toList = s := by simp [bytesOf]

/-- How many bytes a rune in quotes has at the beginning. -/
def qtL : List UInt8 → Option Nat
  | [] => none
  | c :: r => if c = 39 ∧ r ≠ [] ∧ r[(Utf8.decode (bytesOf r) 0).2]? = some 39 then some ((Utf8.decode (bytesOf r) 0).2 + 2) else none
theorem qtL_cons (c : UInt8) (r : List UInt8) : qtL (c :: r) = if c = 39 ∧ r ≠ [] ∧ r[(Utf8.decode (bytesOf r) 0).2]? = some 39 then some ((Utf8.decode (bytesOf r) 0).2 + 2) else none := rfl
theorem decL_bd {r : List UInt8} (h : r ≠ []) : 1 ≤ (Utf8.decode (bytesOf r) 0).2 ∧ (Utf8.decode (bytesOf r) 0).2 ≤ 4 ∧ (Utf8.decode (bytesOf r) 0).2 ≤ r.length := by
  have hl : 0 < (bytesOf r).size := by rw [bytesOf_size]; exact List.length_pos_iff.2 h
  have := dec_bd (bytesOf r) 0 hl
  rw [bytesOf_size] at this
  omega
theorem qtL_some {l : List UInt8} {k : Nat} (h : qtL l = some k) : 3 ≤ k ∧ k ≤ 6 ∧ k ≤ l.length ∧ l[0]? = some 39 ∧ l[k - 1]? = some 39 := by
  cases l with
  | nil => simp [qtL] at h
  | cons c r =>
    rw [qtL_cons] at h
    split at h
    · rename_i hc
      obtain ⟨rfl, h2, h3⟩ := hc
      injection h with h
      have hd := decL_bd h2
      have hlt := (List.getElem?_eq_some_iff.1 h3).1
      refine ⟨by omega, by omega, by simp only [List.length_cons]; omega, rfl, ?_⟩
      rw [← h, show (Utf8.decode (bytesOf r) 0).2 + 2 - 1 = (Utf8.decode (bytesOf r) 0).2 + 1 by omega, List.getElem?_cons_succ]
      exact h3
    · cases h
theorem decN_39 {n m b0 b1 b2 b3 c1 c2 c3 R W : Nat} (h : Lib.decodeN n b0 b1 b2 b3 = (R, W)) (hn : W + 1 ≤ n) (hm : W + 1 ≤ m) (hW : 1 ≤ W) (h1 : c1 = b1) (h2 : 2 ≤ W → c2 = b2) (h3 : 3 ≤ W → c3 = b3) (q1 : W = 1 → b1 = 39) :
    Lib.decodeN m b0 c1 c2 c3 = (R, W) := by
  subst h1
  unfold Lib.decodeN at h
  split at h
  · rename_i g0
    injection h with hR hW'
    subst hR; subst hW'
    unfold Lib.decodeN; rw [if_pos g0]
  · rename_i g0
    split at h
    · rename_i g1
      split at h
      · rename_i g2
        injection h with hR hW'
        subst hR; subst hW'
        unfold Lib.decodeN; rw [if_neg g0, if_pos ⟨g1.1, by omega, g1.2.2⟩, if_pos g2]
      · injection h with hR hW'
        subst hW'
        have := q1 rfl
        omega
    · rename_i g1
      split at h
      · rename_i g2
        split at h
        · rename_i g3
          injection h with hR hW'
          subst hR; subst hW'
          obtain rfl := h2 (by omega)
          unfold Lib.decodeN; rw [if_neg g0, if_neg (by omega), if_pos ⟨g2.1, ⟨by omega, g2.2.1.2⟩, by omega, g2.2.2.2⟩, if_pos g3]
        · injection h with hR hW'
          subst hW'
          have := q1 rfl
          omega
      · rename_i g2
        split at h
        · rename_i g3
          split at h
          · rename_i g4
            injection h with hR hW'
            subst hR; subst hW'
            obtain rfl := h2 (by omega)
            obtain rfl := h3 (by omega)
            unfold Lib.decodeN; rw [if_neg g0, if_neg (by omega), if_neg (by omega), if_pos ⟨g3.1, ⟨by omega, g3.2.1.2⟩, ⟨by omega, g3.2.2.1.2⟩, by omega, g3.2.2.2.2⟩, if_pos g4]
          · injection h with hR hW'
            subst hW'
            have := q1 rfl
            omega
        · injection h with hR hW'
          subst hR; subst hW'
          have := q1 rfl
          subst this
          unfold Lib.decodeN; rw [if_neg g0, if_neg (by omega), if_neg (by omega), if_neg (by omega)]
/-- Whether a rune in quotes stands at the beginning hangs on its own bytes alone. -/
theorem qtL_same {l m : List UInt8} {k : Nat} (h : qtL l = some k) (hm : l.take k = m.take k) : qtL m = some k := by
  have hq := qtL_some h
  have hml : k ≤ m.length := by
    have := congrArg List.length hm
    rw [List.length_take, List.length_take] at this; omega
  have hg : ∀ i, i < k → m[i]? = l[i]? := fun i hi => by
    have := congrArg (·[i]?) hm
    simp only [List.getElem?_take_of_lt hi] at this
    exact this.symm
  cases l with
  | nil => simp [qtL] at h
  | cons c r =>
    cases m with
    | nil => simp at hml; omega
    | cons d q =>
      have h0 := hg 0 (by omega)
      simp only [List.getElem?_cons_zero, Option.some.injEq] at h0
      subst h0
      rw [qtL_cons] at h ⊢
      split at h
      · rename_i hc
        obtain ⟨rfl, h2, h3⟩ := hc
        injection h with h
        have hd := decL_bd h2
        have hr : ∀ i, i + 1 < k → q[i]? = r[i]? := fun i hi => by
          have := hg (i + 1) hi
          rwa [List.getElem?_cons_succ, List.getElem?_cons_succ] at this
        have hgd : ∀ i, i + 1 < k → q.getD i 0 = r.getD i 0 := fun i hi => by
          rw [List.getD_eq_getElem?_getD, List.getD_eq_getElem?_getD, hr i hi]
        have hlr := (List.getElem?_eq_some_iff.1 h3).1
        have hlq : k ≤ q.length + 1 := by simpa using hml
        have hqne : q ≠ [] := by intro e; subst e; simp at hlq; omega
        have hsame : Utf8.decode (bytesOf q) 0 = Utf8.decode (bytesOf r) 0 := by
          obtain ⟨⟨R, W⟩, hD⟩ : ∃ d, Utf8.decode (bytesOf r) 0 = d := ⟨_, rfl⟩
          rw [hD] at hd h h3 hlr ⊢
          simp only at hd h h3 hlr
          rw [Lib.decode_at] at hD ⊢
          simp only [bytesOf_get, bytesOf_size, Nat.zero_add, Nat.sub_zero] at hD ⊢
          rw [hgd 0 (by omega)]
          refine decN_39 hD (by omega) (by omega) hd.1 (by rw [hgd 1 (by omega)]) (fun h => by rw [hgd 2 (by omega)]) (fun h => by rw [hgd 3 (by omega)]) (fun h1 => ?_)
          subst h1
          rw [List.getD_eq_getElem?_getD, h3]; rfl
        rw [hsame, if_pos ⟨rfl, hqne, by rw [hr _ (by omega)]; exact h3⟩, h]
      · cases h
theorem qtL_take {l : List UInt8} {k h : Nat} (hq : qtL l = some k) (hk : k ≤ h) : qtL (l.take h) = some k := qtL_same hq (by rw [List.take_take, Nat.min_eq_left hk])
theorem qtL_of_take {l : List UInt8} {k h : Nat} (hq : qtL (l.take h) = some k) : qtL l = some k := by
  have h1 := (qtL_some hq).2.2.1
  refine qtL_same hq ?_
  rw [List.take_take, Nat.min_eq_left]
  rw [List.length_take] at h1; omega
theorem qtL_append {l m : List UInt8} {k : Nat} (hq : qtL l = some k) : qtL (l ++ m) = some k :=
  qtL_same hq (by rw [List.take_append_of_le_length (qtL_some hq).2.2.1])

/-- The first of a byte that stands in no quotes. -/
def findL (c : UInt8) : Nat → List UInt8 → Option Nat
  | 0, _ => none
  | _ + 1, [] => none
  | f + 1, x :: r => match qtL (x :: r) with
    | some k => (findL c f ((x :: r).drop k)).map (· + k)
    | none => if x = c then some 0 else (findL c f r).map (· + 1)
def findP (c : UInt8) (l : List UInt8) : Option Nat := findL c l.length l
theorem findL_fuel (c : UInt8) : ∀ (f g : Nat) (l : List UInt8), l.length ≤ f → l.length ≤ g → findL c f l = findL c g l
  | 0, g, l, hf, _ => by
    have : l = [] := List.eq_nil_of_length_eq_zero (by omega)
    subst this
    cases g <;> rfl
  | f + 1, 0, l, _, hg => by
    have : l = [] := List.eq_nil_of_length_eq_zero (by omega)
    subst this; rfl
  | f + 1, g + 1, [], _, _ => rfl
  | f + 1, g + 1, x :: r, hf, hg => by
    simp only [List.length_cons] at hf hg
    unfold findL
    cases hq : qtL (x :: r) with
    | some k =>
      have := qtL_some hq
      simp only
      rw [findL_fuel c f g _ (by rw [List.length_drop, List.length_cons]; omega) (by rw [List.length_drop, List.length_cons]; omega)]
    | none => simp only; rw [findL_fuel c f g r (by omega) (by omega)]
theorem findP_nil (c : UInt8) : findP c [] = none := rfl
theorem findP_qt {c : UInt8} {l : List UInt8} {k : Nat} (h : qtL l = some k) : findP c l = (findP c (l.drop k)).map (· + k) := by
  cases l with
  | nil => simp [qtL] at h
  | cons x r =>
    have := qtL_some h
    unfold findP
    rw [List.length_cons]
    show (match qtL (x :: r) with | some k => _ | none => _) = _
    rw [h]
    simp only
    rw [findL_fuel c r.length ((x :: r).drop k).length _ (by rw [List.length_drop, List.length_cons]; omega) (Nat.le_refl _)]
theorem findP_cons {c x : UInt8} {r : List UInt8} (h : qtL (x :: r) = none) : findP c (x :: r) = if x = c then some 0 else (findP c r).map (· + 1) := by
  unfold findP
  rw [List.length_cons]
  show (match qtL (x :: r) with | some k => _ | none => _) = _
  rw [h]
theorem findP_lt {c : UInt8} : ∀ (n : Nat) (l : List UInt8), l.length ≤ n → ∀ i, findP c l = some i → l[i]? = some c
  | 0, l, hn, i, h => by
    have : l = [] := List.eq_nil_of_length_eq_zero (by omega)
    subst this; simp [findP_nil] at h
  | n + 1, [], _, i, h => by simp [findP_nil] at h
  | n + 1, x :: r, hn, i, h => by
    cases hq : qtL (x :: r) with
    | some k =>
      have := qtL_some hq
      rw [findP_qt hq] at h
      obtain ⟨j, hj, rfl⟩ := Option.map_eq_some_iff.1 h
      have ih := findP_lt n _ (by rw [List.length_drop, List.length_cons]; simp at hn; omega) j hj
      rw [List.getElem?_drop] at ih
      rw [Nat.add_comm]; exact ih
    | none =>
      rw [findP_cons hq] at h
      split at h
      · rename_i hx
        injection h with h; subst h; subst hx; rfl
      · obtain ⟨j, hj, rfl⟩ := Option.map_eq_some_iff.1 h
        rw [List.getElem?_cons_succ]
        exact findP_lt n r (by simpa using hn) j hj

def blkB (c : UInt8) : Bool := c == 32 || c == 9
/-- Without blanks at both ends. -/
def trimL (l : List UInt8) : List UInt8 := ((l.dropWhile blkB).reverse.dropWhile blkB).reverse
theorem qtL_blank {x : UInt8} {r : List UInt8} (h : blkB x = true) : qtL (x :: r) = none := by
  rw [qtL_cons, if_neg]
  rintro ⟨rfl, _⟩
  simp [blkB] at h
theorem qtL_blanks : ∀ {l : List UInt8}, (∀ c ∈ l, blkB c = true) → qtL l = none
  | [], _ => rfl
  | x :: _, h => qtL_blank (h x (by simp))
theorem findP_blanks {c : UInt8} (hc : blkB c = false) : ∀ {l : List UInt8}, (∀ d ∈ l, blkB d = true) → findP c l = none
  | [], _ => rfl
  | x :: r, h => by
    rw [findP_cons (qtL_blank (h x (by simp))), if_neg (by rintro rfl; rw [h x (by simp)] at hc; cases hc), findP_blanks hc (fun d hd => h d (by simp [hd]))]; rfl
/-- Blanks ahead move the place alone. -/
theorem findP_lead {c : UInt8} (hc : blkB c = false) : ∀ (b l : List UInt8), (∀ d ∈ b, blkB d = true) → findP c (b ++ l) = (findP c l).map (· + b.length)
  | [], l, _ => by simp
  | x :: b, l, h => by
    rw [List.cons_append, findP_cons (qtL_blank (h x (by simp))), if_neg (by rintro rfl; rw [h x (by simp)] at hc; cases hc), findP_lead hc b l (fun d hd => h d (by simp [hd])), Option.map_map]
    congr 1
theorem qtL_tail {l b : List UInt8} (hb : ∀ d ∈ b, blkB d = true) (hl : qtL l = none) : qtL (l ++ b) = none := by
  cases hq : qtL (l ++ b) with
  | none => rfl
  | some k =>
    have h1 := qtL_some hq
    have hk : k ≤ l.length := by
      rcases Nat.lt_or_ge (k - 1) l.length with h | h
      · omega
      · have h2 := h1.2.2.2.2
        rw [List.getElem?_append_right h] at h2
        have := hb _ (List.mem_of_getElem? h2)
        simp [blkB] at this
    have : qtL l = some k := qtL_same hq (by rw [List.take_append_of_le_length hk])
    rw [hl] at this; cases this
/-- Blanks behind change nothing. -/
theorem findP_trail {c : UInt8} (hc : blkB c = false) : ∀ (n : Nat) (l b : List UInt8), l.length ≤ n → (∀ d ∈ b, blkB d = true) → findP c (l ++ b) = findP c l
  | _, [], b, _, hb => by rw [List.nil_append, findP_blanks hc hb]; rfl
  | 0, x :: r, _, h, _ => by simp at h
  | n + 1, x :: r, b, hn, hb => by
    cases hq : qtL (x :: r) with
    | some k =>
      have h1 := qtL_some hq
      rw [findP_qt (qtL_append hq), findP_qt hq, List.drop_append_of_le_length h1.2.2.1, findP_trail hc n _ b (by rw [List.length_drop]; simp only [List.length_cons] at hn ⊢; omega) hb]
    | none =>
      have h1 := qtL_tail hb hq
      rw [List.cons_append] at h1 ⊢
      rw [findP_cons h1, findP_cons hq, findP_trail hc n r b (by simpa using hn) hb]
end Go.Proofs.YtinfnfgflcjfmaaGreatDoor

/-
  PLAIN: two texts joined by an ASCII byte: the runes are those of both sides. No walk.
-/
namespace Go.Proofs.YtinfnfgflcjfmaaGreatDoor

theorem decN_cont {n b0 b1 b2 b3 R W : Nat} (h : Lib.decodeN n b0 b1 b2 b3 = (R, W)) : (2 ≤ W → 128 ≤ b1) ∧ (3 ≤ W → 128 ≤ b2) ∧ (4 ≤ W → 128 ≤ b3) ∧ W ≤ 4 := by
  unfold Lib.decodeN at h
  repeat' split at h
  all_goals (injection h with _ h; omega)
theorem dec_cont {s : ByteArray} {i k R W : Nat} (h : Utf8.decode s i = (R, W)) (hk : 0 < k) (hW : k < W) : 128 ≤ (s.get! (i + k)).toNat := by
  rw [Lib.decode_at] at h
  obtain ⟨h1, h2, h3, h4⟩ := decN_cont h
  rcases (show k = 1 ∨ k = 2 ∨ k = 3 by omega) with rfl | rfl | rfl
  · exact h1 (by omega)
  · exact h2 (by omega)
  · exact h3 (by omega)
/-- Where an ASCII byte stands a rune begins. -/
theorem ascii_at (s : ByteArray) {z : Nat} (hz : z < s.size) (ha : (s.get! z).toNat < 128) : ∀ (f a : Nat), s.size ≤ a + f → a ≤ z → ∃ x ∈ runesGo s f a, x.2.1 = z
  | 0, a, hf, hle => by omega
  | f + 1, a, hf, hle => by
    have hlt : a < s.size := by omega
    have hd := dec_bd s a hlt
    obtain ⟨⟨R, W⟩, hD⟩ : ∃ d, Utf8.decode s a = d := ⟨_, rfl⟩
    rw [hD] at hd
    simp only at hd
    have hr : runesGo s (f + 1) a = (R, a, a + W) :: runesGo s f (a + W) := by rw [runesGo, if_pos hlt, hD]
    rw [hr]
    by_cases haz : a = z
    · exact ⟨_, List.mem_cons_self, haz⟩
    · have hle2 : a + W ≤ z := by
        rcases Nat.lt_or_ge z (a + W) with h | h
        · have := dec_cont hD (k := z - a) (by omega) (by omega)
          rw [show a + (z - a) = z by omega] at this; omega
        · exact h
      obtain ⟨x, hx, e⟩ := ascii_at s hz ha f (a + W) (by omega) hle2
      exact ⟨x, List.mem_cons_of_mem _ hx, e⟩
def shR (p : Nat) (x : Nat × Nat × Nat) : Nat × Nat × Nat := (x.1, x.2.1 + p, x.2.2 + p)
/-- From a place on the runes are those of what stands there. -/
theorem runes_shift (u t : ByteArray) (p : Nat) (hz : u.size = t.size + p) (hg : ∀ k, u.get! (p + k) = t.get! k) : ∀ (f g a : Nat), t.size ≤ a + f → t.size ≤ a + g → runesGo u g (a + p) = (runesGo t f a).map (shR p)
  | 0, g, a, hf, hgf => by rw [runesGo_end (by omega)]; rfl
  | f + 1, g, a, hf, hgf => by
    by_cases hlt : a < t.size
    · obtain ⟨k, rfl, hk⟩ := runesGo_step (s := u) (f := g) (a := a + p) (by omega) (by omega)
      have hd : Utf8.decode u (a + p) = Utf8.decode t a := by
        rw [Lib.decode_at, Lib.decode_at, show u.size - (a + p) = t.size - a by omega]
        rw [show a + p = p + a by omega, hg, show p + a + 1 = p + (a + 1) by omega, show p + a + 2 = p + (a + 2) by omega, show p + a + 3 = p + (a + 3) by omega, hg, hg, hg]
      have hb := dec_bd t a hlt
      rw [hk, hd, runesGo, if_pos hlt, List.map_cons]
      rw [show a + p + (Utf8.decode t a).2 = a + (Utf8.decode t a).2 + p by omega, runes_shift u t p hz hg f k _ (by omega) (by omega)]; rfl
    · rw [runesGo_end (by omega), runesGo_end (s := t) (by omega)]; rfl
theorem split_at_place (s : ByteArray) {z : Nat} : ∀ (f a : Nat), s.size ≤ a + f → (∃ x ∈ runesGo s f a, x.2.1 = z) → runesGo s f a = ((runesGo s f a).takeWhile fun x => decide (x.2.1 < z)) ++ runesGo s s.size z
  | 0, a, hf, hx => by simp [runesGo] at hx
  | f + 1, a, hf, hx => by
    have hlt : a < s.size := by
      rcases Nat.lt_or_ge a s.size with h | h
      · exact h
      · rw [runesGo_end h] at hx; simp at hx
    have hd := dec_bd s a hlt
    have hr : runesGo s (f + 1) a = ((Utf8.decode s a).1, a, a + (Utf8.decode s a).2) :: runesGo s f (a + (Utf8.decode s a).2) := by rw [runesGo, if_pos hlt]
    obtain ⟨x, hm, hxz⟩ := hx
    rw [hr] at hm ⊢
    by_cases haz : a = z
    · subst haz
      rw [List.takeWhile_cons, if_neg (by simp), List.nil_append]
      obtain ⟨k, hk, e⟩ := runesGo_step (s := s) (f := s.size) (a := a) hlt (by omega)
      rw [e]
      congr 1
      have := runes_shift s s 0 (by omega) (fun k => by rw [Nat.zero_add]) f k (a + (Utf8.decode s a).2) (by omega) (by omega)
      rw [Nat.add_zero] at this
      rw [this]
      exact (List.map_id'' (fun y => by simp [shR]) _).symm
    · rcases List.mem_cons.1 hm with rfl | hm
      · exact absurd hxz haz
      · have hb := runesGo_bd _ _ x hm
        rw [List.takeWhile_cons, if_pos (by simp; omega), List.cons_append]
        congr 1
        exact split_at_place s f _ (by omega) ⟨x, hm, hxz⟩
/-- A text, an ASCII byte, a text. -/
theorem runes_join (s t : ByteArray) (c : UInt8) (hc : c.toNat < 128) {u : ByteArray} (hu : u.data.toList = s.data.toList ++ c :: t.data.toList) :
    runesP u = runesP s ++ (c.toNat, s.size, s.size + 1) :: (runesP t).map (shR (s.size + 1)) := by
  have hz : u.size = s.size + 1 + t.size := by rw [← size_data, hu, List.length_append, List.length_cons, size_data, size_data]; omega
  have hget : ∀ k, u.get! k = u.data.toList.getD k 0 := fun k => (Lib.getD_get!' u k).symm
  have hgc : u.get! s.size = c := by
    rw [hget, hu, List.getD_eq_getElem?_getD, List.getElem?_append_right (by rw [size_data]; exact Nat.le_refl _), size_data, Nat.sub_self]; rfl
  have hplace := ascii_at u (z := s.size) (by omega) (by rw [hgc]; exact hc) u.size 0 (by omega) (Nat.zero_le _)
  have hs : u.extract 0 s.size = s := by
    have : (u.extract 0 s.size).data.toList = s.data.toList := by
      rw [ByteArray.data_extract, Array.toList_extract, List.extract_eq_take_drop, List.drop_zero, Nat.sub_zero, hu, List.take_append_of_le_length (by rw [size_data]; exact Nat.le_refl _), List.take_of_length_le (by rw [size_data]; exact Nat.le_refl _)]
    rw [← bytesOf_data (u.extract 0 s.size), this, bytesOf_data]
  have h1 : runesP s = (runesP u).takeWhile fun x => decide (x.2.1 < s.size) := by
    have := runesP_prefix u (z := s.size) (by omega) (.inr (.inr hplace))
    rw [hs] at this; exact this
  have h2 := split_at_place u (z := s.size) u.size 0 (by omega) hplace
  rw [h1]
  unfold runesP at h2 ⊢
  conv => lhs; rw [h2]
  congr 1
  obtain ⟨k, hk, e⟩ := runesGo_step (s := u) (f := u.size) (a := s.size) (by omega) (by omega)
  have hd : Utf8.decode u s.size = (c.toNat, 1) := by
    rw [Lib.decode_at, hgc]; unfold Lib.decodeN; rw [if_pos hc]
  rw [e, hd]
  simp only
  congr 1
  have := runes_shift u t (s.size + 1) (by omega) (fun k => by
    rw [hget, hu, ← Lib.getD_get!' t, List.getD_eq_getElem?_getD, List.getD_eq_getElem?_getD, List.getElem?_append_right (by rw [size_data]; omega), size_data, show s.size + 1 + k - s.size = k + 1 by omega, List.getElem?_cons_succ]) t.size k 0 (by omega) (by omega)
  rw [Nat.zero_add] at this
  exact this
end Go.Proofs.YtinfnfgflcjfmaaGreatDoor

/-
  PLAIN: words: the bounds of a text; a line end parts them. No walk.
-/
namespace Go.Proofs.YtinfnfgflcjfmaaGreatDoor

def wCls (g : Int → Nat) (s : ByteArray) : List Int := (runesP s).map fun x => (g x.1 : Int)
def wPick (c : List Int) : Nat → List Nat → List Nat
  | _, [] => []
  | i, a :: r => (if i = 0 ∨ wCut c i = true then [a] else []) ++ wPick c (i + 1) r
/-- The bounds of a text. -/
def wBounds (g : Int → Nat) (s : ByteArray) : List Nat := wPick (wCls g s) 0 ((runesP s).map (·.2.1)) ++ (if s.size = 0 then [] else [s.size])
theorem wCls_len (g : Int → Nat) (s : ByteArray) : (wCls g s).length = (runesP s).length := by simp [wCls]
theorem wPick_append (c : List Int) : ∀ (P Q : List Nat) (i : Nat), wPick c i (P ++ Q) = wPick c i P ++ wPick c (i + P.length) Q
  | [], Q, i => by simp [wPick]
  | a :: P, Q, i => by
    rw [List.cons_append, wPick, wPick, wPick_append c P Q (i + 1), List.append_assoc, List.length_cons, show i + 1 + P.length = i + (P.length + 1) by omega]
theorem wPick_congr {c d : List Int} : ∀ (P : List Nat) (i j : Nat), (∀ k, k < P.length → ((i + k = 0 ∨ wCut c (i + k) = true) ↔ (j + k = 0 ∨ wCut d (j + k) = true))) → wPick c i P = wPick d j P
  | [], _, _, _ => rfl
  | a :: P, i, j, h => by
    have h0 := h 0 (by simp)
    simp only [Nat.add_zero] at h0
    rw [wPick, wPick, wPick_congr P (i + 1) (j + 1) (fun k hk => by
      have := h (k + 1) (by simpa using hk)
      rw [show i + 1 + k = i + (k + 1) by omega, show j + 1 + k = j + (k + 1) by omega]; exact this)]
    congr 1
    by_cases hc : i = 0 ∨ wCut c i = true
    · rw [if_pos hc, if_pos (h0.1 hc)]
    · rw [if_neg hc, if_neg (fun k => hc (h0.2 k))]
theorem wPick_map (c : List Int) (f : Nat → Nat) : ∀ (P : List Nat) (i : Nat), wPick c i (P.map f) = (wPick c i P).map f
  | [], _ => rfl
  | a :: P, i => by
    rw [List.map_cons, wPick, wPick, wPick_map c f P (i + 1), List.map_append]
    congr 1
    split <;> rfl
/-- A line end parts a text: its bounds are those of both sides. -/
theorem wBounds_parts {g : Int → Nat} (h10 : g 10 = 2) (h13 : ∀ r : Nat, r ≤ 1114111 → g r = 1 → r = 13) {s t u : ByteArray} (hu : u.data.toList = s.data.toList ++ 10 :: t.data.toList) (hs : s.data.toList.getLast? ≠ some 13) :
    wBounds g u = (if wBounds g s = [] then [0] else wBounds g s) ++ (if wBounds g t = [] then [s.size + 1] else (wBounds g t).map (· + (s.size + 1))) := by
  have hz : u.size = s.size + 1 + t.size := by rw [← size_data, hu, List.length_append, List.length_cons, size_data, size_data]; omega
  have hr := runes_join s t 10 (by decide) hu
  have hc : wCls g u = wCls g s ++ 2 :: wCls g t := by
    unfold wCls
    rw [hr, List.map_append, List.map_cons, List.map_map]
    congr 1
    congr 1
    show ((g 10 : Nat) : Int) = 2
    rw [h10]; rfl
  have hp : (runesP u).map (·.2.1) = (runesP s).map (·.2.1) ++ s.size :: ((runesP t).map (·.2.1)).map (· + (s.size + 1)) := by
    rw [hr, List.map_append, List.map_cons, List.map_map, List.map_map]; rfl
  have hlast : wCls g s ≠ [] → (wCls g s).getD ((wCls g s).length - 1) 0 ≠ 1 := fun hne k => by
    have hl : 0 < (runesP s).length := by rw [← wCls_len g]; exact List.length_pos_iff.2 hne
    have hlt : (runesP s).length - 1 < (runesP s).length := by omega
    rw [wCls_len, List.getD_eq_getElem?_getD] at k
    unfold wCls at k
    rw [List.getElem?_map, List.getElem?_eq_getElem hlt] at k
    simp only [Option.map_some, Option.getD_some] at k
    have hx := List.getElem_mem hlt
    generalize hxe : (runesP s)[(runesP s).length - 1] = x at k hx
    have hb := runesP_bd x hx
    have h1 : x.1 = 13 := h13 x.1 hb.2.2.2 (by omega)
    have hd := runesGo_dec _ _ x hx
    have hW : x.2.2 - x.2.1 = 1 ∧ (s.get! x.2.1).toNat = 13 := by
      rw [Lib.decode_at, h1] at hd
      generalize x.2.2 - x.2.1 = W at hd
      unfold Lib.decodeN at hd
      repeat' split at hd
      all_goals (injection hd with e1 e2; omega)
    have hend : x.2.2 = s.size := by
      have hcg := runesP_contig s
      have : ∀ (r : List (Nat × Nat × Nat)) (p z : Nat) (hr : 0 < r.length), Contig p r z → (r[r.length - 1]'(by omega)).2.2 = z := by
        intro r
        induction r with
        | nil => intro p z hr; simp at hr
        | cons y r ih =>
          intro p z _ h
          cases r with
          | nil => exact h.2.2
          | cons y2 r => exact ih _ _ (by simp) h.2.2
      rw [← this _ _ _ hl hcg, hxe]
    refine hs ?_
    rw [List.getLast?_eq_getElem?, size_data]
    have hi : s.size - 1 = x.2.1 := by omega
    have hlt2 : x.2.1 < s.data.toList.length := by rw [size_data]; omega
    have h13' : s.data.toList.getD x.2.1 0 = s.get! x.2.1 := Lib.getD_get!' s _
    rw [List.getD_eq_getElem?_getD, List.getElem?_eq_getElem hlt2, Option.getD_some] at h13'
    rw [hi, List.getElem?_eq_getElem hlt2, h13']
    congr 1
    exact UInt8.toNat_inj.1 hW.2
  unfold wBounds
  rw [hp, hc]
  generalize hA : wCls g s = A at hlast
  generalize hB : wCls g t = B
  have lA : A.length = (runesP s).length := by rw [← hA, wCls_len]
  have lB : B.length = (runesP t).length := by rw [← hB, wCls_len]
  have e1 : wPick (A ++ 2 :: B) 0 ((runesP s).map (·.2.1)) = wPick A 0 ((runesP s).map (·.2.1)) := wPick_congr _ 0 0 fun k hk => by
    rw [List.length_map] at hk
    rw [Nat.zero_add, cut_left (by omega)]
  have e2 : wPick (A ++ 2 :: B) (0 + ((runesP s).map (·.2.1)).length) (s.size :: ((runesP t).map (·.2.1)).map (· + (s.size + 1))) = s.size :: (wPick B 0 ((runesP t).map (·.2.1))).map (· + (s.size + 1)) := by
    rw [Nat.zero_add, List.length_map, ← lA, wPick, if_pos, ← wPick_map]
    · rw [List.singleton_append]
      congr 1
      refine wPick_congr _ _ _ fun k hk => ?_
      rw [List.length_map, List.length_map, ← lB] at hk
      cases k with
      | zero => simp [cut_behind]
      | succ k => rw [cut_right (by omega), Nat.zero_add]; simp
    · by_cases hne : A = []
      · exact .inl (by rw [hne]; rfl)
      · exact .inr (cut_mid (hlast hne) hne)
  rw [wPick_append, e1, e2, if_neg (by omega)]
  have hsz : ∀ v : ByteArray, v.size = 0 → runesP v = [] := fun v hv => by unfold runesP; rw [hv]; rfl
  have q1 : (if wPick A 0 ((runesP s).map (·.2.1)) ++ (if s.size = 0 then [] else [s.size]) = [] then [0] else wPick A 0 ((runesP s).map (·.2.1)) ++ (if s.size = 0 then [] else [s.size])) = wPick A 0 ((runesP s).map (·.2.1)) ++ [s.size] := by
    by_cases h0 : s.size = 0
    · rw [hsz s h0, h0]; simp [wPick]
    · rw [if_neg h0, if_neg (by simp)]
  have q2 : (if wPick B 0 ((runesP t).map (·.2.1)) ++ (if t.size = 0 then [] else [t.size]) = [] then [s.size + 1] else (wPick B 0 ((runesP t).map (·.2.1)) ++ (if t.size = 0 then [] else [t.size])).map (· + (s.size + 1))) = (wPick B 0 ((runesP t).map (·.2.1))).map (· + (s.size + 1)) ++ [u.size] := by
    by_cases h0 : t.size = 0
    · rw [hsz t h0, h0, hz, h0]; simp [wPick]
    · rw [if_neg h0, if_neg (by simp), List.map_append, hz]
      simp; omega
  rw [q1, q2]
  simp
end Go.Proofs.YtinfnfgflcjfmaaGreatDoor

/-
  slices.Contains of numbers, walked. Printed by gen_kkind.py.
-/
namespace Go.Proofs.YtinfnfgflcjfmaaGreatDoor
open Go.RowKit

/-- None of the first j. -/
def NoneTo (p : Int → Bool) (l : List Int) (j : Nat) : Prop := ∀ k x, k < j → l[k]? = some x → p x = false
theorem noneTo_first (p : Int → Bool) (l : List Int) : NoneTo p l 0 := fun k x hk => by omega
theorem noneTo_next {p : Int → Bool} {l : List Int} {j : Nat} {x : Int} (h : NoneTo p l j) (hx : l[j]? = some x) (hp : p x = false) : NoneTo p l (j + 1) := fun k y hk hy => by
  rcases (by omega : k < j ∨ k = j) with h1 | rfl
  · exact h k y h1 hy
  · rw [hx] at hy; injection hy with hy; rw [← hy]; exact hp
theorem noneTo_end {p : Int → Bool} {l : List Int} {j : Nat} (h : NoneTo p l j) (hj : ¬ j < l.length) : l.any p = false := by
  rw [List.any_eq_false]
  intro x hx
  obtain ⟨k, hk, e⟩ := List.getElem_of_mem hx
  rw [h k x (by omega) (by rw [List.getElem?_eq_getElem hk, e])]
  simp
theorem any_here {p : Int → Bool} {l : List Int} {j : Nat} {x : Int} (hx : l[j]? = some x) (hp : p x = true) : l.any p = true := List.any_eq_true.2 ⟨x, List.mem_of_getElem? hx, hp⟩
theorem ge_nat (j : Nat) : decide (0 ≤ (j : Int)) = true := decide_eq_true (by omega)

set_option maxRecDepth 100000 in
set_option maxHeartbeats 2000000 in
theorem lIndexI_any (A : Option Addr) (n c : Nat) (l : List Int) (x : Int) (w : World) (hA : Rd w 1 A (l.map encZ)) (hl : l.length = n) (hn : n ≤ 4000000) :
    Calls Tryz.prog 105 #[.slice A n c, .int .i64 x] w fun e w' => ∃ v : Int, e = .returned (.int .i64 v) ∧ decide (0 ≤ v) = l.any (x == ·) ∧ w = w' := by
  have Hl := Lib.hid hl
  clear hl
  go_enter Tryz.func105, Tryz.ntmps105
  go_wp2
  go_loopw [8] (fun v wr => ∃ j : Nat, v = .int .i64 j ∧ j ≤ n ∧ Hid (NoneTo (x == ·) l j) ∧ wr = w) (fun v _ => n - (intOf v).toNat)
  case atStart => exact ⟨0, rfl, by omega, Lib.hid (noneTo_first _ l), rfl⟩
  case round =>
    obtain ⟨j, rfl, hj, HN, rfl⟩ := hrel
    by_cases hlt : j < n
    · obtain ⟨y, Hy⟩ : ∃ y, Hid (l[j]? = some y) := ⟨_, Lib.hid (List.getElem?_eq_getElem (by have := Hl.out; omega))⟩
      obtain ⟨b, off, rfl, hc⟩ := hA.atZ Hy.out
      obtain ⟨q, Hq⟩ : ∃ q, Hid ((x == ·) y = q) := ⟨_, Lib.hid rfl⟩
      cases q with
      | true =>
        have HV := Lib.hid (any_here Hy.out Hq.out)
        have he := Hq.out
        go_wp2
        go_ret
        exact ⟨j, rfl, by rw [HV.out]; exact ge_nat j, rfl⟩
      | false =>
        have HN' := Lib.hid (noneTo_next HN.out Hy.out Hq.out)
        have he := Hq.out
        go_wp2
        go_roundw
        case rel => exact ⟨j + 1, by go_num, by omega, HN', trivial⟩
        case measure => simp [intOf]; omega
    · have HV := Lib.hid (noneTo_end HN.out (by rw [Hl.out]; exact hlt))
      go_wp2
      go_ret
      exact ⟨-1, rfl, by rw [HV.out]; rfl, rfl⟩
set_option maxHeartbeats 1000000 in
theorem lContains_any (A : Option Addr) (n c : Nat) (l : List Int) (x : Int) (w : World) (hA : Rd w 1 A (l.map encZ)) (hl : l.length = n) (hn : n ≤ 4000000) :
    Calls Tryz.prog 65 #[.slice A n c, .int .i64 x] w fun e w' => e = .returned (.bool (l.any (x == ·))) ∧ w = w' := by
  have HI := Lib.hid (lIndexI_any A n c l x w hA hl hn)
  clear hA hl
  go_enter Tryz.func65, Tryz.ntmps65
  go_wp2_with fail
  refine HI.out.mono ?_
  rintro e w1 ⟨v, rfl, hv, rfl⟩
  have HV := Lib.hid hv
  clear hv HI
  go_wp2
  go_ret
  exact ⟨by rw [← HV.out]; rfl, rfl⟩
end Go.Proofs.YtinfnfgflcjfmaaGreatDoor

/-
  PLAIN: lines: where a line may end by the classes of its runes; places that are never chances. No walk.
-/
namespace Go.Proofs.YtinfnfgflcjfmaaGreatDoor

/-- How many runes stand ahead when those of a class at the end are passed over. -/
def lPast (c : List Int) (k : Int) : Nat → Nat
  | 0 => 0
  | n + 1 => if c.getD n 0 = k then lPast c k n else n + 1
def lLast (c : List Int) (n : Nat) : Int := if n = 0 then -1 else c.getD (n - 1) 0
def lRegGo (c : List Int) : Nat → Nat → Nat
  | 0, _ => 0
  | f + 1, n => if lLast c n = 25 then lRegGo c f (lPast c 8 (n - 1)) + 1 else 0
def lReg (c : List Int) (n : Nat) : Nat := lRegGo c (n + 1) (lPast c 8 n)
def lNum (c : List Int) (n : Nat) : Bool :=
  let n1 := lPast c 8 n
  let n2 := if [11, 10].contains (lLast c n1) then lPast c 8 (n1 - 1) else n1
  let n3 := if [14, 15].contains (lLast c n2) then lPast c 8 (n2 - 1) else n2
  lLast c n3 == 20
def lPairs (b q : Int) : Bool :=
  (b == 0 && [20, 22, 21, 0, 9].contains q || b == 20 && [0, 9, 20].contains q || b == 22 && [23, 0].contains q) ||
  (b == 23 && q == 21 || b == 21 && q == 0 || [16, 14, 15].contains b && q == 20 || b == 14 && q == 0) ||
  (b == 10 && [0, 20].contains q)
def lLetters (c : List Int) (i : Nat) (b q : Int) : Bool :=
  ([12, 17, 16, 24, 19].contains q || b == 12 || lPairs b q) || ([21, 22].contains q && lNum c i) ||
  ([21, 22].contains b && (q == 20 || [9, 16].contains q && decide (i + 1 < c.length) && c.getD (i + 1) 0 == 20)) ||
  (q == 25 && lReg c i % 2 == 1)
def lGlued (p b q : Int) : Bool :=
  (q == 8 && !([1, 2, 3, 4, 5].contains p) || q == 6 || b == 6 || b == 7) || (q == 7 && !([4, 17, 16].contains b) || [11, 10, 13, 14, 15].contains q)
def lOver (c : List Int) (i : Nat) (q : Int) : Bool :=
  let a := lLast c (lPast c 8 (lPast c 4 i))
  a == 9 || a == 12 && q == 9 || [11, 10].contains a && q == 24 || a == 18 && q == 18
def lMust (c : Int) : Bool := [1, 2, 3].contains c
/-- May a line end ahead of a rune that is not the first? -/
def lCut (c : List Int) (i : Nat) : Bool :=
  let p := c.getD (i - 1) 0
  let q := c.getD i 0
  let b := lLast c (lPast c 8 i)
  if p = 2 ∧ q = 3 then false
  else if lMust p then true
  else if [1, 2, 3, 4, 5].contains q then false
  else if lLast c (lPast c 4 i) = 5 then true
  else if lGlued p b q || lOver c i q then false
  else if p = 4 then true
  else !lLetters c i b q
theorem lMust_iff (c : Int) : lMust c = true ↔ c = 1 ∨ c = 2 ∨ c = 3 := by simp [lMust]
theorem lPast_le (c : List Int) (k : Int) : ∀ n, lPast c k n ≤ n
  | 0 => Nat.le_refl _
  | n + 1 => by
    have := lPast_le c k n
    unfold lPast; split <;> omega
theorem lPast_here {c : List Int} {k : Int} {i : Nat} (h : c.getD i 0 ≠ k) : lPast c k (i + 1) = i + 1 := by unfold lPast; rw [if_neg h]
theorem lPast_on {c : List Int} {k : Int} {i : Nat} (h : c.getD i 0 = k) : lPast c k (i + 1) = lPast c k i := by
  conv => lhs; unfold lPast
  rw [if_pos h]
theorem lLast_succ (c : List Int) (i : Nat) : lLast c (i + 1) = c.getD i 0 := by unfold lLast; rw [if_neg (by omega), Nat.add_sub_cancel]
/-- Where a line must end. -/
theorem lCut_end {c : List Int} {i : Nat} (h : lMust (c.getD i 0) = true) : lCut c (i + 1) = !decide (c.getD i 0 = 2 ∧ c.getD (i + 1) 0 = 3) := by
  unfold lCut
  dsimp only
  rw [show i + 1 - 1 = i from rfl]
  by_cases h23 : c.getD i 0 = 2 ∧ c.getD (i + 1) 0 = 3
  · rw [if_pos h23, decide_eq_true h23]; rfl
  · rw [if_neg h23, decide_eq_false h23, if_pos h]; rfl
theorem lCut_blank {c : List Int} {i : Nat} (h : lMust (c.getD i 0) = false) (hq : [1, 2, 3, 4, 5].contains (c.getD (i + 1) 0) = true) : lCut c (i + 1) = false := by
  unfold lCut
  dsimp only
  rw [show i + 1 - 1 = i from rfl, h, hq]
  split <;> simp
/-- Whether a break stands ahead of the blanks. -/
def lZw (c : List Int) (n : Nat) : Bool := lLast c (lPast c 4 n) == 5
theorem lZw_step (c : List Int) (i : Nat) : lZw c (i + 1) = if c.getD i 0 = 5 then true else if c.getD i 0 ≠ 4 then false else lZw c i := by
  unfold lZw
  by_cases h4 : c.getD i 0 = 4
  · rw [lPast_on h4, if_neg (by omega), if_neg (by omega)]
  · rw [lPast_here h4, lLast_succ]
    by_cases h5 : c.getD i 0 = 5
    · rw [if_pos h5, h5]; rfl
    · rw [if_neg h5, if_pos h4]; exact beq_eq_false_iff_ne.2 h5
theorem lCut_glue {c : List Int} {i : Nat} (h : lMust (c.getD i 0) = false) (hz : lZw c (i + 1) = false) (hg : lGlued (c.getD i 0) (lLast c (lPast c 8 (i + 1))) (c.getD (i + 1) 0) = true) : lCut c (i + 1) = false := by
  unfold lCut
  dsimp only
  rw [show i + 1 - 1 = i from rfl, h, hg]
  have hz' : ¬ lLast c (lPast c 4 (i + 1)) = 5 := fun e => by unfold lZw at hz; rw [e] at hz; cases hz
  rw [if_neg hz']
  simp
theorem lCut_pair {c : List Int} {i : Nat} (h : lMust (c.getD i 0) = false) (hz : lZw c (i + 1) = false) (h4 : c.getD i 0 ≠ 4) (h8 : c.getD i 0 ≠ 8) (hg : lPairs (c.getD i 0) (c.getD (i + 1) 0) = true) : lCut c (i + 1) = false := by
  unfold lCut
  dsimp only
  have hz' : ¬ lLast c (lPast c 4 (i + 1)) = 5 := fun e => by unfold lZw at hz; rw [e] at hz; cases hz
  have hb : lLast c (lPast c 8 (i + 1)) = c.getD i 0 := by rw [lPast_here h8, lLast_succ]
  rw [show i + 1 - 1 = i from rfl, h, if_neg hz', hb, if_neg h4]
  have : lLetters c (i + 1) (c.getD i 0) (c.getD (i + 1) 0) = true := by unfold lLetters; rw [hg]; simp
  rw [this]
  simp
/-- Ahead of what closes. -/
theorem lNever_close {c : List Int} {i : Nat} (h : lMust (c.getD i 0) = false) (hz : lZw c (i + 1) = false) (hq : c.getD (i + 1) 0 = 6 ∨ c.getD (i + 1) 0 = 11 ∨ c.getD (i + 1) 0 = 10 ∨ c.getD (i + 1) 0 = 13 ∨ c.getD (i + 1) 0 = 14 ∨ c.getD (i + 1) 0 = 15) : lCut c (i + 1) = false := by
  refine lCut_glue h hz ?_
  unfold lGlued
  rcases hq with hq | hq | hq | hq | hq | hq <;> (rw [hq]; simp)
/-- Behind what glues. -/
theorem lNever_glue {c : List Int} {i : Nat} (hp : c.getD i 0 = 7 ∨ c.getD i 0 = 6) : lCut c (i + 1) = false := by
  have h : lMust (c.getD i 0) = false := by rcases hp with hp | hp <;> rw [hp] <;> rfl
  have hz : lZw c (i + 1) = false := by rw [lZw_step, if_neg (by omega), if_pos (by omega)]
  refine lCut_glue h hz ?_
  rw [lPast_here (by omega), lLast_succ]
  unfold lGlued
  rcases hp with hp | hp <;> (rw [hp]; simp)
/-- Between letters, between letters and digits. -/
theorem lNever_letters {c : List Int} {i : Nat} (h : c.getD i 0 = 0 ∧ (c.getD (i + 1) 0 = 0 ∨ c.getD (i + 1) 0 = 20 ∨ c.getD (i + 1) 0 = 7 ∨ c.getD (i + 1) 0 = 6) ∨ c.getD i 0 = 20 ∧ (c.getD (i + 1) 0 = 0 ∨ c.getD (i + 1) 0 = 20)) : lCut c (i + 1) = false := by
  have hm : lMust (c.getD i 0) = false := by rcases h with ⟨h, _⟩ | ⟨h, _⟩ <;> rw [h] <;> rfl
  have hz : lZw c (i + 1) = false := by rw [lZw_step, if_neg (by omega), if_pos (by omega)]
  by_cases hg : c.getD (i + 1) 0 = 7 ∨ c.getD (i + 1) 0 = 6
  · refine lCut_glue hm hz ?_
    rw [lPast_here (by omega), lLast_succ]
    unfold lGlued
    have h0 : c.getD i 0 = 0 := by omega
    rcases hg with hg | hg <;> (rw [hg, h0]; simp)
  · refine lCut_pair hm hz (by omega) (by omega) ?_
    unfold lPairs
    rcases h with ⟨h1, h2 | h2 | h2 | h2⟩ | ⟨h1, h2 | h2⟩
    · rw [h1, h2]; rfl
    · rw [h1, h2]; rfl
    · omega
    · omega
    · rw [h1, h2]; rfl
    · rw [h1, h2]; rfl
end Go.Proofs.YtinfnfgflcjfmaaGreatDoor

/-
  line: among; past, last, regions, number: walked.
-/
namespace Go.Proofs.YtinfnfgflcjfmaaGreatDoor
open Go.RowKit

theorem bAl {a w : World} (h : Below a.heap.size a w) (o : Obj) : Below a.heap.size a (w.alloc o) := h.alloc h.size o
theorem Rd.lits (W : World) (t : TypeId) (xs : List Int) : Rd (W.alloc (.cells (xs.map (Value.int .i64)).toArray t)) 1 (some ⟨W.heap.size, 0, none⟩) (xs.map encZ) := fun _ =>
  ⟨W.heap.size, 0, rfl, fun k j x u hx hu => by
    have hb := (Blk.new W t (xs.map (Value.int .i64)).toArray).cell (0 + k * 1 + j)
    rw [hb]
    rw [List.getElem?_map] at hx
    cases hq : xs[k]? with
    | none => rw [hq] at hx; cases hx
    | some y =>
      rw [hq] at hx
      simp at hx
      subst hx
      match j, hu with
      | 0, hu => simp [encZ] at hu; subst hu; simp [hq]
      | j + 1, hu => simp [encZ] at hu⟩
set_option maxHeartbeats 1000000 in
theorem tamong_lit (c : Int) (xs : List Int) (n : Nat) (W : World) (arr : Array Value) (harr : arr = (xs.map (Value.int .i64)).toArray) (hn : xs.length = n) (hz : n ≤ 10) :
    Calls Tryz.prog 100 #[.int .i64 c, .slice (some ⟨W.heap.size, 0, none⟩) n n] (W.alloc (.cells arr 3)) fun e w' => e = .returned (.bool (xs.contains c)) ∧ W.alloc (.cells arr 3) = w' := by
  subst harr
  have HC := Lib.hid (lContains_any (some ⟨W.heap.size, 0, none⟩) n n xs c _ (Rd.lits W 3 xs) hn (by omega))
  rw [show (xs.any fun x => c == x) = xs.contains c from (List.contains_eq_any_beq).symm] at HC
  generalize W.alloc (.cells (xs.map (Value.int .i64)).toArray 3) = W1 at HC
  generalize xs.contains c = r at HC
  go_enter Tryz.func100, Tryz.ntmps100
  go_wp2_with (go_at_call 65; refine HC.out.mono ?_; rintro e w' ⟨rfl, rfl⟩)
  go_ret
  exact ⟨rfl, rfl⟩

set_option maxRecDepth 100000 in
set_option maxHeartbeats 2000000 in
theorem tpast_any (A B : Option Addr) (na ca n cb : Nat) (c : List Int) (i : Nat) (k : Int) (w : World) (hB : Rd w 1 B (c.map encZ)) (hl : c.length = n) (hi : i ≤ n) (hn : n ≤ 4000000) :
    Calls Tryz.prog 99 #[.agg #[.slice A na ca, .slice B n cb], .int .i64 i, .int .i64 k] w fun e w' => e = .returned (.int .i64 (lPast c k i : Nat)) ∧ Below w.heap.size w w' := by
  have Hl := Lib.hid hl
  clear hl
  have hBz : Below w.heap.size w (w.alloc (.cells #[.slice A na ca, .slice B n cb] 75)) := (Below.refl _ _).alloc (Nat.le_refl _) _
  have hK := Blk.new w 75 #[.slice A na ca, .slice B n cb]
  have k1 := hK.cell 1
  simp only [List.getElem?_toArray, List.getElem?_cons_zero, List.getElem?_cons_succ] at k1
  go_enter Tryz.func99, Tryz.ntmps99
  go_wp2
  go_loopw [1] (fun v wr => ∃ j : Nat, v = .int .i64 j ∧ j ≤ i ∧ Hid (lPast c k j = lPast c k i) ∧ wr = w.alloc (.cells #[.slice A na ca, .slice B n cb] 75)) (fun v _ => (intOf v).toNat)
  case atStart => exact ⟨i, rfl, Nat.le_refl _, Lib.hid rfl, rfl⟩
  case round =>
    obtain ⟨j, rfl, hj, HW, rfl⟩ := hrel
    by_cases h0 : 0 < j
    · obtain ⟨j, rfl⟩ : ∃ m, j = m + 1 := ⟨j - 1, by omega⟩
      obtain ⟨x, Hx⟩ : ∃ x, Hid (c[j]? = some x) := ⟨_, Lib.hid (List.getElem?_eq_getElem (by have := Hl.out; omega))⟩
      obtain ⟨b, off, rfl, hc⟩ := hB.atZ Hx.out
      have hc := cell_keep hc hBz
      have e1 : ((j + 1 : Nat) : Int) - 1 = (j : Int) := by omega
      have HS : Hid (lPast c k (j + 1) = if x = k then lPast c k j else j + 1) := Lib.hid (by rw [lPast, getD_of Hx.out])
      obtain ⟨q, hq⟩ : ∃ q, (x == k) = q := ⟨_, rfl⟩
      cases q with
      | true =>
        have HW' : Hid (lPast c k j = lPast c k i) := Lib.hid (by rw [← HW.out, HS.out, if_pos (beq_iff_eq.1 hq)])
        go_wp2
        go_roundw
        case rel => exact ⟨j, by go_num, by omega, HW', trivial⟩
        case measure => simp [intOf]
      | false =>
        have HV : Hid (lPast c k i = j + 1) := Lib.hid (by rw [← HW.out, HS.out, if_neg (beq_eq_false_iff_ne.1 hq)])
        go_wp2
        go_ret
        exact ⟨by rw [HV.out]; rfl, hBz⟩
    · have HV : Hid (lPast c k i = j) := Lib.hid (by rw [← HW.out, show j = 0 by omega]; rfl)
      have h1 : ¬ (0 : Int) < (j : Int) := by omega
      go_wp2
      go_ret
      exact ⟨by rw [HV.out]; rfl, hBz⟩

set_option maxRecDepth 100000 in
set_option maxHeartbeats 1000000 in
theorem tlast_any (A B : Option Addr) (na ca n cb : Nat) (c : List Int) (i : Nat) (w : World) (hB : Rd w 1 B (c.map encZ)) (hl : c.length = n) (hi : i ≤ n) (hn : n ≤ 4000000) :
    Calls Tryz.prog 98 #[.agg #[.slice A na ca, .slice B n cb], .int .i64 i] w fun e w' => e = .returned (.int .i64 (lLast c i)) ∧ Below w.heap.size w w' := by
  have hBz : Below w.heap.size w (w.alloc (.cells #[.slice A na ca, .slice B n cb] 75)) := (Below.refl _ _).alloc (Nat.le_refl _) _
  have hK := Blk.new w 75 #[.slice A na ca, .slice B n cb]
  have k1 := hK.cell 1
  simp only [List.getElem?_toArray, List.getElem?_cons_zero, List.getElem?_cons_succ] at k1
  by_cases h : i = 0
  · have HV : Hid (lLast c i = -1) := Lib.hid (by unfold lLast; rw [if_pos h])
    have e0 : ((i : Int) == 0) = true := by rw [h]; rfl
    clear h
    go_enter Tryz.func98, Tryz.ntmps98
    go_wp2
    go_ret
    exact ⟨by rw [HV.out]; rfl, hBz⟩
  · obtain ⟨j, rfl⟩ : ∃ m, i = m + 1 := ⟨i - 1, by omega⟩
    obtain ⟨x, Hx⟩ : ∃ x, Hid (c[j]? = some x) := ⟨_, Lib.hid (List.getElem?_eq_getElem (by omega))⟩
    obtain ⟨b, off, rfl, hc⟩ := hB.atZ Hx.out
    have hc := cell_keep hc hBz
    have HV : Hid (lLast c (j + 1) = x) := Lib.hid (by rw [lLast_succ, getD_of Hx.out])
    have e1 : ((j + 1 : Nat) : Int) - 1 = (j : Int) := by omega
    have e0 : (((j + 1 : Nat) : Int) == 0) = false := beq_eq_false_iff_ne.2 (by omega)
    have e2 : ((j : Int) + 1 == 0) = false := beq_eq_false_iff_ne.2 (by omega)
    clear h hl
    go_enter Tryz.func98, Tryz.ntmps98
    go_wp2
    go_ret
    exact ⟨by rw [HV.out]; rfl, hBz⟩

/-- How far the count of regions has come. -/
def LegAt (c : List Int) (i k m : Nat) : Prop := m ≤ i ∧ k + m ≤ i ∧ ∃ f, m < f ∧ k + lRegGo c f m = lReg c i
theorem legAt_first (c : List Int) (i : Nat) : LegAt c i 0 (lPast c 8 i) := ⟨lPast_le c 8 i, by have := lPast_le c 8 i; omega, i + 1, by have := lPast_le c 8 i; omega, by rw [Nat.zero_add]; rfl⟩
theorem lLast_pos {c : List Int} {m : Nat} {x : Int} (h : lLast c m = x) (hx : 0 ≤ x) : 0 < m := by
  rcases Nat.eq_zero_or_pos m with rfl | h0
  · unfold lLast at h; rw [if_pos rfl] at h; omega
  · exact h0
theorem legAt_next {c : List Int} {i k m : Nat} (h : LegAt c i k m) (h7 : lLast c m = 25) : LegAt c i (k + 1) (lPast c 8 (m - 1)) := by
  obtain ⟨h1, h2, f, hf, hk⟩ := h
  have h0 := lLast_pos h7 (by omega)
  have hp := lPast_le c 8 (m - 1)
  cases f with
  | zero => omega
  | succ f =>
    rw [lRegGo, if_pos h7] at hk
    exact ⟨by omega, by omega, f, by omega, by omega⟩
theorem legAt_end {c : List Int} {i k m : Nat} (h : LegAt c i k m) (h7 : lLast c m ≠ 25) : k = lReg c i := by
  obtain ⟨h1, h2, f, hf, hk⟩ := h
  cases f with
  | zero => omega
  | succ f => rw [lRegGo, if_neg h7] at hk; omega

set_option maxRecDepth 100000 in
set_option maxHeartbeats 2000000 in
theorem tregions_any (A B : Option Addr) (na ca n cb : Nat) (c : List Int) (i : Nat) (w : World) (hB : Rd w 1 B (c.map encZ)) (hl : c.length = n) (hi : i ≤ n) (hn : n ≤ 3000000) :
    Calls Tryz.prog 146 #[.agg #[.slice A na ca, .slice B n cb], .int .i64 i] w fun e w' => e = .returned (.int .i64 (lReg c i : Nat)) ∧ Below w.heap.size w w' := by
  have Hl := Lib.hid hl
  clear hl
  have hBz : Below w.heap.size w (w.alloc (.cells #[.slice A na ca, .slice B n cb] 75)) := (Below.refl _ _).alloc (Nat.le_refl _) _
  have hK := Blk.new w 75 #[.slice A na ca, .slice B n cb]
  have HLs := Lib.hid (fun (j : Nat) W (h : Below w.heap.size w W) (hj : j ≤ n) => tlast_any A B na ca n cb c j W (hB.below h) Hl.out hj (by omega))
  have HPs := Lib.hid (fun (j : Nat) W (h : Below w.heap.size w W) (hj : j ≤ n) => tpast_any A B na ca n cb c j 8 W (hB.below h) Hl.out hj (by omega))
  have HR0 := Lib.hid (legAt_first c i)
  have k0 := hK.cell 0
  have k1 := hK.cell 1
  simp only [List.getElem?_toArray, List.getElem?_cons_zero, List.getElem?_cons_succ] at k0 k1
  go_enter Tryz.func146, Tryz.ntmps146
  go_wp2_with fail
  refine (HPs.out i _ hBz hi).mono ?_
  generalize lPast c 8 i = x0 at HR0
  rintro e w1 ⟨rfl, hb1⟩
  replace k0 := cell_keep k0 hb1
  replace k1 := cell_keep k1 hb1
  have hB1 := hBz.trans (hb1.mono hBz.size)
  clear hBz hb1
  go_wp2_with fail
  go_loopw [1, 5] (fun u v wr => ∃ m k : Nat, u = .int .i64 m ∧ v = .int .i64 k ∧ Hid (LegAt c i k m) ∧ Below w.heap.size w wr ∧ wr.cell? ⟨w.heap.size, 0, none⟩ = some (.slice A na ca) ∧ wr.cell? ⟨w.heap.size, 1, none⟩ = some (.slice B n cb)) (fun u _ _ => (intOf u).toNat)
  case atStart => exact ⟨_, 0, rfl, rfl, HR0, hB1, k0, k1⟩
  case round =>
    clear k0 k1 hB1
    obtain ⟨m, k, rfl, rfl, HR, hb, k0, k1⟩ := hrel
    have hx1 := HR.out.1
    have hx2 := HR.out.2.1
    have HOx := Lib.hid (HLs.out m wr hb (by omega))
    by_cases h7 : lLast c m = 25
    · rw [h7] at HOx
      have HR' := Lib.hid (legAt_next HR.out h7)
      have hm0 := lLast_pos h7 (by omega)
      have hlt := lPast_le c 8 (m - 1)
      clear h7 HR
      obtain ⟨m, rfl⟩ : ∃ r, m = r + 1 := ⟨m - 1, by omega⟩
      rw [Nat.add_sub_cancel] at HR' hlt
      have e1 : ((m + 1 : Nat) : Int) - 1 = (m : Int) := by omega
      go_wp2_with fail
      refine HOx.out.mono ?_
      rintro e w2 ⟨rfl, hb2⟩
      replace k0 := cell_keep k0 hb2
      replace k1 := cell_keep k1 hb2
      have hbb := below_step hb hb2 hb.size
      have hx3 := HR'.out.2.1
      go_wp2_with fail
      refine (HPs.out m w2 hbb (by omega)).mono ?_
      generalize lPast c 8 m = y at HR' hlt hx3
      rintro e w3 ⟨rfl, hb3⟩
      replace k0 := cell_keep k0 hb3
      replace k1 := cell_keep k1 hb3
      have hbc := below_step hbb hb3 hbb.size
      go_wp2
      go_roundw
      case rel => exact ⟨y, k + 1, rfl, by go_num, HR', hbc, k0, k1⟩
      case measure => simp [intOf]; omega
    · have HV : Hid (k = lReg c i) := Lib.hid (legAt_end HR.out h7)
      have e7 : (lLast c m == 25) = false := beq_eq_false_iff_ne.2 h7
      clear h7
      generalize lLast c m = y at HOx e7
      go_wp2_with fail
      refine HOx.out.mono ?_
      rintro e w2 ⟨rfl, hb2⟩
      go_wp2
      go_ret
      exact ⟨by rw [HV.out]; rfl, below_step hb hb2 hb.size⟩
end Go.Proofs.YtinfnfgflcjfmaaGreatDoor

/-
  line: number, pairs, letters, glued, over, cut, walked: a cut around each test. Printed by gen_tcut.py.
-/
namespace Go.Proofs.YtinfnfgflcjfmaaGreatDoor
open Go.RowKit

theorem tamong_b (c : Int) (xs : List Int) (n : Nat) (W : World) (arr : Array Value) (harr : arr = (xs.map (Value.int .i64)).toArray) (hn : xs.length = n) (hz : n ≤ 10) :
    Calls Tryz.prog 100 #[.int .i64 c, .slice (some ⟨W.heap.size, 0, none⟩) n n] (W.alloc (.cells arr 3)) fun e w' => e = .returned (.bool (xs.contains c)) ∧ Below W.heap.size W w' :=
  (tamong_lit c xs n W arr harr hn hz).mono (by rintro e w' ⟨h1, h2⟩; exact ⟨h1, by rw [← h2]; exact (Below.refl _ _).alloc (Nat.le_refl _) _⟩)
set_option maxHeartbeats 1000000 in
theorem tmust_any (c : Int) (w : World) : Calls Tryz.prog 57 #[.int .i64 c] w fun e w' => e = .returned (.bool (lMust c)) ∧ Below w.heap.size w w' := by
  obtain ⟨r, Hr⟩ : ∃ r, Hid (lMust c = r) := ⟨_, Lib.hid rfl⟩
  have h1 : [1, 2, 3].contains c = r := Hr.out
  rw [Hr.out]
  go_enter Tryz.func57, Tryz.ntmps57
  go_wp2_with fail
  refine (tamong_b _ [1, 2, 3] 3 _ _ rfl rfl (by decide)).mono ?_
  rw [h1]
  rintro e wn ⟨rfl, hz⟩
  go_wp2
  go_ret
  exact ⟨rfl, hz⟩

end Go.Proofs.YtinfnfgflcjfmaaGreatDoor

/-
  line: pairs, walked. Printed by gen_tcut.py.
-/
namespace Go.Proofs.YtinfnfgflcjfmaaGreatDoor
open Go.RowKit

set_option maxRecDepth 100000 in
set_option maxHeartbeats 8000000 in
theorem tpairs_any (b q : Int) (w : World) : Calls Tryz.prog 144 #[.int .i64 b, .int .i64 q] w fun e w' => e = .returned (.bool (lPairs b q)) ∧ Below w.heap.size w w' := by
  obtain ⟨x1, H1⟩ : ∃ x, Hid (((b == 0) && ([20, 22, 21, 0, 9].contains q)) = x) := ⟨_, Lib.hid rfl⟩
  obtain ⟨x2, H2⟩ : ∃ x, Hid (((b == 20) && ([0, 9, 20].contains q)) = x) := ⟨_, Lib.hid rfl⟩
  obtain ⟨x3, H3⟩ : ∃ x, Hid (((b == 22) && ([23, 0].contains q)) = x) := ⟨_, Lib.hid rfl⟩
  obtain ⟨x4, H4⟩ : ∃ x, Hid (((b == 23) && (q == 21)) = x) := ⟨_, Lib.hid rfl⟩
  obtain ⟨x5, H5⟩ : ∃ x, Hid (((b == 21) && (q == 0)) = x) := ⟨_, Lib.hid rfl⟩
  obtain ⟨x6, H6⟩ : ∃ x, Hid ((([16, 14, 15].contains b) && (q == 20)) = x) := ⟨_, Lib.hid rfl⟩
  obtain ⟨x7, H7⟩ : ∃ x, Hid (((b == 14) && (q == 0)) = x) := ⟨_, Lib.hid rfl⟩
  obtain ⟨x8, H8⟩ : ∃ x, Hid (((b == 10) && ([0, 20].contains q)) = x) := ⟨_, Lib.hid rfl⟩
  have HW : Hid (lPairs b q = ((x1 || x2 || x3) || (x4 || x5 || x6 || x7) || x8)) := Lib.hid (by
    rw [← H1.out, ← H2.out, ← H3.out, ← H4.out, ← H5.out, ← H6.out, ← H7.out, ← H8.out]; rfl)
  have hb := Below.refl w.heap.size w
  go_enter Tryz.func144, Tryz.ntmps144
  go_upto_region 1 with fail
  go_cut [5] from 5 (fun v wx => v = .bool x1 ∧ Below w.heap.size w wx)
  case first =>
    cases h1 : (b == 0) with
    | true =>
      cases h2 : ([20, 22, 21, 0, 9].contains q) with
      | true =>
        go_wp2_with fail
        refine (tamong_b _ [20, 22, 21, 0, 9] 5 _ _ rfl rfl (by decide)).mono ?_
        rw [h2]
        rintro e wn ⟨rfl, hz⟩
        replace hb := below_step hb hz hb.size
        clear hz
        go_wp2_with fail
        go_meet
        exact ⟨by rw [← H1.out, h1, h2]; rfl, hb⟩
      | false =>
        go_wp2_with fail
        refine (tamong_b _ [20, 22, 21, 0, 9] 5 _ _ rfl rfl (by decide)).mono ?_
        rw [h2]
        rintro e wn ⟨rfl, hz⟩
        replace hb := below_step hb hz hb.size
        clear hz
        go_wp2_with fail
        go_meet
        exact ⟨by rw [← H1.out, h1, h2]; rfl, hb⟩
    | false =>
      go_wp2_with fail
      go_meet
      exact ⟨by rw [← H1.out, h1]; rfl, hb⟩
  case rest =>
    obtain ⟨rfl, hb⟩ := hcut
    cases x1 with
    | true =>
      go_wp2
      go_ret
      exact ⟨by rw [HW.out]; simp, hb⟩
    | false =>
      go_upto_region 2 with fail
      go_cut [5] from 5 (fun v wx => v = .bool x2 ∧ Below w.heap.size w wx)
      case first =>
        cases h1 : (b == 20) with
        | true =>
          cases h2 : ([0, 9, 20].contains q) with
          | true =>
            go_wp2_with fail
            refine (tamong_b _ [0, 9, 20] 3 _ _ rfl rfl (by decide)).mono ?_
            rw [h2]
            rintro e wn ⟨rfl, hz⟩
            replace hb := below_step hb hz hb.size
            clear hz
            go_wp2_with fail
            go_meet
            exact ⟨by rw [← H2.out, h1, h2]; rfl, hb⟩
          | false =>
            go_wp2_with fail
            refine (tamong_b _ [0, 9, 20] 3 _ _ rfl rfl (by decide)).mono ?_
            rw [h2]
            rintro e wn ⟨rfl, hz⟩
            replace hb := below_step hb hz hb.size
            clear hz
            go_wp2_with fail
            go_meet
            exact ⟨by rw [← H2.out, h1, h2]; rfl, hb⟩
        | false =>
          go_wp2_with fail
          go_meet
          exact ⟨by rw [← H2.out, h1]; rfl, hb⟩
      case rest =>
        obtain ⟨rfl, hb⟩ := hcut
        cases x2 with
        | true =>
          go_wp2
          go_ret
          exact ⟨by rw [HW.out]; simp, hb⟩
        | false =>
          go_upto_region 3 with fail
          go_cut [5] from 5 (fun v wx => v = .bool x3 ∧ Below w.heap.size w wx)
          case first =>
            cases h1 : (b == 22) with
            | true =>
              cases h2 : ([23, 0].contains q) with
              | true =>
                go_wp2_with fail
                refine (tamong_b _ [23, 0] 2 _ _ rfl rfl (by decide)).mono ?_
                rw [h2]
                rintro e wn ⟨rfl, hz⟩
                replace hb := below_step hb hz hb.size
                clear hz
                go_wp2_with fail
                go_meet
                exact ⟨by rw [← H3.out, h1, h2]; rfl, hb⟩
              | false =>
                go_wp2_with fail
                refine (tamong_b _ [23, 0] 2 _ _ rfl rfl (by decide)).mono ?_
                rw [h2]
                rintro e wn ⟨rfl, hz⟩
                replace hb := below_step hb hz hb.size
                clear hz
                go_wp2_with fail
                go_meet
                exact ⟨by rw [← H3.out, h1, h2]; rfl, hb⟩
            | false =>
              go_wp2_with fail
              go_meet
              exact ⟨by rw [← H3.out, h1]; rfl, hb⟩
          case rest =>
            obtain ⟨rfl, hb⟩ := hcut
            cases x3 with
            | true =>
              go_wp2
              go_ret
              exact ⟨by rw [HW.out]; simp, hb⟩
            | false =>
              go_upto_region 5 with fail
              go_cut [27] from 5 (fun v wx => v = .bool x4 ∧ Below w.heap.size w wx)
              case first =>
                cases h1 : (b == 23) with
                | true =>
                  cases h2 : (q == 21) with
                  | true =>
                    go_wp2_with fail
                    go_meet
                    exact ⟨by rw [← H4.out, h1, h2]; rfl, hb⟩
                  | false =>
                    go_wp2_with fail
                    go_meet
                    exact ⟨by rw [← H4.out, h1, h2]; rfl, hb⟩
                | false =>
                  go_wp2_with fail
                  go_meet
                  exact ⟨by rw [← H4.out, h1]; rfl, hb⟩
              case rest =>
                obtain ⟨rfl, hb⟩ := hcut
                cases x4 with
                | true =>
                  go_wp2
                  go_ret
                  exact ⟨by rw [HW.out]; simp, hb⟩
                | false =>
                  go_upto_region 6 with fail
                  go_cut [27] from 5 (fun v wx => v = .bool x5 ∧ Below w.heap.size w wx)
                  case first =>
                    cases h1 : (b == 21) with
                    | true =>
                      cases h2 : (q == 0) with
                      | true =>
                        go_wp2_with fail
                        go_meet
                        exact ⟨by rw [← H5.out, h1, h2]; rfl, hb⟩
                      | false =>
                        go_wp2_with fail
                        go_meet
                        exact ⟨by rw [← H5.out, h1, h2]; rfl, hb⟩
                    | false =>
                      go_wp2_with fail
                      go_meet
                      exact ⟨by rw [← H5.out, h1]; rfl, hb⟩
                  case rest =>
                    obtain ⟨rfl, hb⟩ := hcut
                    cases x5 with
                    | true =>
                      go_wp2
                      go_ret
                      exact ⟨by rw [HW.out]; simp, hb⟩
                    | false =>
                      go_upto_region 7 with fail
                      go_cut [27] from 5 (fun v wx => v = .bool x6 ∧ Below w.heap.size w wx)
                      case first =>
                        cases h1 : ([16, 14, 15].contains b) with
                        | true =>
                          cases h2 : (q == 20) with
                          | true =>
                            go_wp2_with fail
                            refine (tamong_b _ [16, 14, 15] 3 _ _ rfl rfl (by decide)).mono ?_
                            rw [h1]
                            rintro e wn ⟨rfl, hz⟩
                            replace hb := below_step hb hz hb.size
                            clear hz
                            go_wp2_with fail
                            go_meet
                            exact ⟨by rw [← H6.out, h1, h2]; rfl, hb⟩
                          | false =>
                            go_wp2_with fail
                            refine (tamong_b _ [16, 14, 15] 3 _ _ rfl rfl (by decide)).mono ?_
                            rw [h1]
                            rintro e wn ⟨rfl, hz⟩
                            replace hb := below_step hb hz hb.size
                            clear hz
                            go_wp2_with fail
                            go_meet
                            exact ⟨by rw [← H6.out, h1, h2]; rfl, hb⟩
                        | false =>
                          go_wp2_with fail
                          refine (tamong_b _ [16, 14, 15] 3 _ _ rfl rfl (by decide)).mono ?_
                          rw [h1]
                          rintro e wn ⟨rfl, hz⟩
                          replace hb := below_step hb hz hb.size
                          clear hz
                          go_wp2_with fail
                          go_meet
                          exact ⟨by rw [← H6.out, h1]; rfl, hb⟩
                      case rest =>
                        obtain ⟨rfl, hb⟩ := hcut
                        cases x6 with
                        | true =>
                          go_wp2
                          go_ret
                          exact ⟨by rw [HW.out]; simp, hb⟩
                        | false =>
                          go_upto_region 8 with fail
                          go_cut [27] from 5 (fun v wx => v = .bool x7 ∧ Below w.heap.size w wx)
                          case first =>
                            cases h1 : (b == 14) with
                            | true =>
                              cases h2 : (q == 0) with
                              | true =>
                                go_wp2_with fail
                                go_meet
                                exact ⟨by rw [← H7.out, h1, h2]; rfl, hb⟩
                              | false =>
                                go_wp2_with fail
                                go_meet
                                exact ⟨by rw [← H7.out, h1, h2]; rfl, hb⟩
                            | false =>
                              go_wp2_with fail
                              go_meet
                              exact ⟨by rw [← H7.out, h1]; rfl, hb⟩
                          case rest =>
                            obtain ⟨rfl, hb⟩ := hcut
                            cases x7 with
                            | true =>
                              go_wp2
                              go_ret
                              exact ⟨by rw [HW.out]; simp, hb⟩
                            | false =>
                              cases h1 : (b == 10) with
                              | true =>
                                cases h2 : ([0, 20].contains q) with
                                | true =>
                                  go_wp2_with fail
                                  refine (tamong_b _ [0, 20] 2 _ _ rfl rfl (by decide)).mono ?_
                                  rw [h2]
                                  rintro e wn ⟨rfl, hz⟩
                                  replace hb := below_step hb hz hb.size
                                  clear hz
                                  go_wp2_with fail
                                  go_ret
                                  exact ⟨by rw [HW.out, ← H8.out, h1, h2]; rfl, hb⟩
                                | false =>
                                  go_wp2_with fail
                                  refine (tamong_b _ [0, 20] 2 _ _ rfl rfl (by decide)).mono ?_
                                  rw [h2]
                                  rintro e wn ⟨rfl, hz⟩
                                  replace hb := below_step hb hz hb.size
                                  clear hz
                                  go_wp2_with fail
                                  go_ret
                                  exact ⟨by rw [HW.out, ← H8.out, h1, h2]; rfl, hb⟩
                              | false =>
                                go_wp2_with fail
                                go_ret
                                exact ⟨by rw [HW.out, ← H8.out, h1]; rfl, hb⟩
end Go.Proofs.YtinfnfgflcjfmaaGreatDoor

/-
  line: number, walked. Printed by gen_tcut.py.
-/
namespace Go.Proofs.YtinfnfgflcjfmaaGreatDoor
open Go.RowKit

set_option maxRecDepth 100000 in
set_option maxHeartbeats 8000000 in
theorem tnumber_any (A B : Option Addr) (na ca n cb : Nat) (c : List Int) (i : Nat) (w : World) (hB : Rd w 1 B (c.map encZ)) (hl : c.length = n) (hi : i ≤ n) (hn : n ≤ 3000000) :
    Calls Tryz.prog 145 #[.agg #[.slice A na ca, .slice B n cb], .int .i64 i] w fun e w' => e = .returned (.bool (lNum c i)) ∧ Below w.heap.size w w' := by
  have hBz : Below w.heap.size w (w.alloc (.cells #[.slice A na ca, .slice B n cb] 75)) := (Below.refl _ _).alloc (Nat.le_refl _) _
  have hK := Blk.new w 75 #[.slice A na ca, .slice B n cb]
  have k0 := hK.cell 0
  have k1 := hK.cell 1
  simp only [List.getElem?_toArray, List.getElem?_cons_zero, List.getElem?_cons_succ] at k0 k1
  have HLs := Lib.hid (fun (j : Nat) W (h : Below w.heap.size w W) (hj : j ≤ n) => tlast_any A B na ca n cb c j W (hB.below h) hl hj (by omega))
  have HPs := Lib.hid (fun (j : Nat) (k : Int) W (h : Below w.heap.size w W) (hj : j ≤ n) => tpast_any A B na ca n cb c j k W (hB.below h) hl hj (by omega))
  obtain ⟨n1, H1⟩ : ∃ x, Hid (lPast c 8 i = x) := ⟨_, Lib.hid rfl⟩
  have g1 : n1 ≤ i := by have := lPast_le c 8 i; have := H1.out; omega
  obtain ⟨y1, Y1⟩ : ∃ x, Hid (lLast c n1 = x) := ⟨_, Lib.hid rfl⟩
  obtain ⟨n2, H2⟩ : ∃ x, Hid ((if [11, 10].contains y1 then lPast c 8 (n1 - 1) else n1) = x) := ⟨_, Lib.hid rfl⟩
  obtain ⟨y2, Y2⟩ : ∃ x, Hid (lLast c n2 = x) := ⟨_, Lib.hid rfl⟩
  obtain ⟨n3, H3⟩ : ∃ x, Hid ((if [14, 15].contains y2 then lPast c 8 (n2 - 1) else n2) = x) := ⟨_, Lib.hid rfl⟩
  obtain ⟨y3, Y3⟩ : ∃ x, Hid (lLast c n3 = x) := ⟨_, Lib.hid rfl⟩
  have HW : Hid (lNum c i = (y3 == 20)) := Lib.hid (by
    rw [← Y3.out, ← H3.out, ← Y2.out, ← H2.out, ← Y1.out, ← H1.out]; rfl)
  have g2 : n2 ≤ n1 := by
    rw [← H2.out]
    have := lPast_le c 8 (n1 - 1)
    split
    · omega
    · omega
  have g3 : n3 ≤ n2 := by
    rw [← H3.out]
    have := lPast_le c 8 (n2 - 1)
    split
    · omega
    · omega
  have P1 : Hid ([11, 10].contains y1 = true → 0 < n1) := Lib.hid (fun h => lLast_pos Y1.out (by simp at h; omega))
  have P2 : Hid ([14, 15].contains y2 = true → 0 < n2) := Lib.hid (fun h => lLast_pos Y2.out (by simp at h; omega))
  have hb := hBz
  clear hBz hB hl hK
  go_enter Tryz.func145, Tryz.ntmps145
  go_wp2_with fail
  refine (HPs.out _ _ _ hb (by omega)).mono ?_
  rw [H1.out]
  rintro e wn ⟨rfl, hz⟩
  replace k0 := cell_keep k0 hz
  replace k1 := cell_keep k1 hz
  replace hb := below_step hb hz hb.size
  clear hz
  go_wp2_with fail
  refine (HLs.out _ _ hb (by omega)).mono ?_
  rw [Y1.out]
  rintro e wn ⟨rfl, hz⟩
  replace k0 := cell_keep k0 hz
  replace k1 := cell_keep k1 hz
  replace hb := below_step hb hz hb.size
  clear hz
  cases m1 : ([11, 10].contains y1) with
  | true =>
    go_wp2_with fail
    refine (tamong_b _ [11, 10] 2 _ _ rfl rfl (by decide)).mono ?_
    rw [m1]
    rintro e wn ⟨rfl, hz⟩
    replace k0 := cell_keep k0 hz
    replace k1 := cell_keep k1 hz
    replace hb := below_step hb hz hb.size
    clear hz
    have hp := P1.out m1
    rw [m1, if_pos rfl] at H2
    obtain ⟨r1, rfl⟩ : ∃ r, n1 = r + 1 := ⟨n1 - 1, by omega⟩
    rw [Nat.add_sub_cancel] at H2
    have e1 : ((r1 + 1 : Nat) : Int) - 1 = (r1 : Int) := by omega
    go_wp2_with fail
    refine (HPs.out _ _ _ hb (by omega)).mono ?_
    rw [H2.out]
    rintro e wn ⟨rfl, hz⟩
    replace k0 := cell_keep k0 hz
    replace k1 := cell_keep k1 hz
    replace hb := below_step hb hz hb.size
    clear hz
    go_wp2_with fail
    refine (HLs.out _ _ hb (by omega)).mono ?_
    rw [Y2.out]
    rintro e wn ⟨rfl, hz⟩
    replace k0 := cell_keep k0 hz
    replace k1 := cell_keep k1 hz
    replace hb := below_step hb hz hb.size
    clear hz
    cases m2 : ([14, 15].contains y2) with
    | true =>
      go_wp2_with fail
      refine (tamong_b _ [14, 15] 2 _ _ rfl rfl (by decide)).mono ?_
      rw [m2]
      rintro e wn ⟨rfl, hz⟩
      replace k0 := cell_keep k0 hz
      replace k1 := cell_keep k1 hz
      replace hb := below_step hb hz hb.size
      clear hz
      have hp := P2.out m2
      rw [m2, if_pos rfl] at H3
      obtain ⟨r2, rfl⟩ : ∃ r, n2 = r + 1 := ⟨n2 - 1, by omega⟩
      rw [Nat.add_sub_cancel] at H3
      have e2 : ((r2 + 1 : Nat) : Int) - 1 = (r2 : Int) := by omega
      go_wp2_with fail
      refine (HPs.out _ _ _ hb (by omega)).mono ?_
      rw [H3.out]
      rintro e wn ⟨rfl, hz⟩
      replace k0 := cell_keep k0 hz
      replace k1 := cell_keep k1 hz
      replace hb := below_step hb hz hb.size
      clear hz
      go_wp2_with fail
      refine (HLs.out _ _ hb (by omega)).mono ?_
      rw [Y3.out]
      rintro e wn ⟨rfl, hz⟩
      replace k0 := cell_keep k0 hz
      replace k1 := cell_keep k1 hz
      replace hb := below_step hb hz hb.size
      clear hz
      go_wp2
      go_ret
      exact ⟨by rw [HW.out]; rfl, hb⟩
    | false =>
      go_wp2_with fail
      refine (tamong_b _ [14, 15] 2 _ _ rfl rfl (by decide)).mono ?_
      rw [m2]
      rintro e wn ⟨rfl, hz⟩
      replace k0 := cell_keep k0 hz
      replace k1 := cell_keep k1 hz
      replace hb := below_step hb hz hb.size
      clear hz
      rw [m2, if_neg (by simp)] at H3
      obtain rfl := H3.out.symm
      go_wp2_with fail
      refine (HLs.out _ _ hb (by omega)).mono ?_
      rw [Y3.out]
      rintro e wn ⟨rfl, hz⟩
      replace k0 := cell_keep k0 hz
      replace k1 := cell_keep k1 hz
      replace hb := below_step hb hz hb.size
      clear hz
      go_wp2
      go_ret
      exact ⟨by rw [HW.out]; rfl, hb⟩
  | false =>
    go_wp2_with fail
    refine (tamong_b _ [11, 10] 2 _ _ rfl rfl (by decide)).mono ?_
    rw [m1]
    rintro e wn ⟨rfl, hz⟩
    replace k0 := cell_keep k0 hz
    replace k1 := cell_keep k1 hz
    replace hb := below_step hb hz hb.size
    clear hz
    rw [m1, if_neg (by simp)] at H2
    obtain rfl := H2.out.symm
    go_wp2_with fail
    refine (HLs.out _ _ hb (by omega)).mono ?_
    rw [Y2.out]
    rintro e wn ⟨rfl, hz⟩
    replace k0 := cell_keep k0 hz
    replace k1 := cell_keep k1 hz
    replace hb := below_step hb hz hb.size
    clear hz
    cases m2 : ([14, 15].contains y2) with
    | true =>
      go_wp2_with fail
      refine (tamong_b _ [14, 15] 2 _ _ rfl rfl (by decide)).mono ?_
      rw [m2]
      rintro e wn ⟨rfl, hz⟩
      replace k0 := cell_keep k0 hz
      replace k1 := cell_keep k1 hz
      replace hb := below_step hb hz hb.size
      clear hz
      have hp := P2.out m2
      rw [m2, if_pos rfl] at H3
      obtain ⟨r2, rfl⟩ : ∃ r, n2 = r + 1 := ⟨n2 - 1, by omega⟩
      rw [Nat.add_sub_cancel] at H3
      have e2 : ((r2 + 1 : Nat) : Int) - 1 = (r2 : Int) := by omega
      go_wp2_with fail
      refine (HPs.out _ _ _ hb (by omega)).mono ?_
      rw [H3.out]
      rintro e wn ⟨rfl, hz⟩
      replace k0 := cell_keep k0 hz
      replace k1 := cell_keep k1 hz
      replace hb := below_step hb hz hb.size
      clear hz
      go_wp2_with fail
      refine (HLs.out _ _ hb (by omega)).mono ?_
      rw [Y3.out]
      rintro e wn ⟨rfl, hz⟩
      replace k0 := cell_keep k0 hz
      replace k1 := cell_keep k1 hz
      replace hb := below_step hb hz hb.size
      clear hz
      go_wp2
      go_ret
      exact ⟨by rw [HW.out]; rfl, hb⟩
    | false =>
      go_wp2_with fail
      refine (tamong_b _ [14, 15] 2 _ _ rfl rfl (by decide)).mono ?_
      rw [m2]
      rintro e wn ⟨rfl, hz⟩
      replace k0 := cell_keep k0 hz
      replace k1 := cell_keep k1 hz
      replace hb := below_step hb hz hb.size
      clear hz
      rw [m2, if_neg (by simp)] at H3
      obtain rfl := H3.out.symm
      go_wp2_with fail
      refine (HLs.out _ _ hb (by omega)).mono ?_
      rw [Y3.out]
      rintro e wn ⟨rfl, hz⟩
      replace k0 := cell_keep k0 hz
      replace k1 := cell_keep k1 hz
      replace hb := below_step hb hz hb.size
      clear hz
      go_wp2
      go_ret
      exact ⟨by rw [HW.out]; rfl, hb⟩
end Go.Proofs.YtinfnfgflcjfmaaGreatDoor

/-
  line: letters, walked. Printed by gen_tcut2.py.
-/
namespace Go.Proofs.YtinfnfgflcjfmaaGreatDoor
open Go.RowKit

set_option maxRecDepth 100000 in
set_option maxHeartbeats 8000000 in
theorem tletters_any (A B : Option Addr) (na ca n cb : Nat) (c : List Int) (i : Nat) (b q : Int) (w : World) (hB : Rd w 1 B (c.map encZ)) (hl : c.length = n) (h1i : 1 ≤ i) (hin : i < n) (hn : n ≤ 3000000) :
    Calls Tryz.prog 103 #[.agg #[.slice A na ca, .slice B n cb], .int .i64 i, .int .i64 b, .int .i64 q] w fun e w' => e = .returned (.bool (lLetters c i b q)) ∧ Below w.heap.size w w' := by
  have hBz : Below w.heap.size w (w.alloc (.cells #[.slice A na ca, .slice B n cb] 75)) := (Below.refl _ _).alloc (Nat.le_refl _) _
  have hK := Blk.new w 75 #[.slice A na ca, .slice B n cb]
  have k0 := hK.cell 0
  have k1 := hK.cell 1
  simp only [List.getElem?_toArray, List.getElem?_cons_zero, List.getElem?_cons_succ] at k0 k1
  obtain ⟨yp, Hyp⟩ : ∃ x, Hid (lPairs b q = x) := ⟨_, Lib.hid rfl⟩
  obtain ⟨yn, Hyn⟩ : ∃ x, Hid (lNum c i = x) := ⟨_, Lib.hid rfl⟩
  obtain ⟨R1, HR1⟩ : ∃ x, Hid (lReg c i = x) := ⟨_, Lib.hid rfl⟩
  obtain ⟨x1, H1⟩ : ∃ x, Hid ((([12, 17, 16, 24, 19].contains q) || (b == 12) || yp) = x) := ⟨_, Lib.hid rfl⟩
  obtain ⟨x2, H2⟩ : ∃ x, Hid ((([21, 22].contains q) && yn) = x) := ⟨_, Lib.hid rfl⟩
  obtain ⟨x3, H3⟩ : ∃ x, Hid (([21, 22].contains b && (q == 20 || [9, 16].contains q && decide (i + 1 < c.length) && c.getD (i + 1) 0 == 20)) = x) := ⟨_, Lib.hid rfl⟩
  have HW : Hid (lLetters c i b q = (x1 || x2 || x3 || (q == 25 && R1 % 2 == 1))) := Lib.hid (by rw [← H1.out, ← H2.out, ← H3.out, ← HR1.out, ← Hyp.out, ← Hyn.out]; rfl)
  have HCp : Hid (∀ W, Below w.heap.size w W → Calls Tryz.prog 144 #[.int .i64 b, .int .i64 q] W fun e w' => e = .returned (.bool yp) ∧ Below W.heap.size W w') := Lib.hid (fun W _ => by rw [← Hyp.out]; exact tpairs_any b q W)
  have HCn : Hid (∀ W, Below w.heap.size w W → Calls Tryz.prog 145 #[.agg #[.slice A na ca, .slice B n cb], .int .i64 i] W fun e w' => e = .returned (.bool yn) ∧ Below W.heap.size W w') := Lib.hid (fun W h => by rw [← Hyn.out]; exact tnumber_any A B na ca n cb c i W (hB.below h) hl (by omega) hn)
  have HCr : Hid (∀ W, Below w.heap.size w W → Calls Tryz.prog 146 #[.agg #[.slice A na ca, .slice B n cb], .int .i64 i] W fun e w' => e = .returned (.int .i64 (R1 : Nat)) ∧ Below W.heap.size W w') := Lib.hid (fun W h => by rw [← HR1.out]; exact tregions_any A B na ca n cb c i W (hB.below h) hl (by omega) hn)
  have HX : Hid ((i + 1 < n ∧ ∃ x, c.getD (i + 1) 0 = x ∧ ∃ blk off, B = some ⟨blk, off, none⟩ ∧ w.cell? ⟨blk, off + (i + 1), none⟩ = some (.int .i64 x)) ∨ ¬ i + 1 < n) := Lib.hid (by
    by_cases h : i + 1 < n
    · have hx := List.getElem?_eq_getElem (l := c) (i := i + 1) (by omega)
      obtain ⟨blk, off, e, k⟩ := hB.atZ hx
      exact .inl ⟨h, _, getD_of hx, blk, off, e, k⟩
    · exact .inr h)
  have HL := Lib.hid hl
  have hb := hBz
  clear hBz hB hl hK Hyp Hyn
  go_enter Tryz.func103, Tryz.ntmps103
  go_upto_region 1 with fail
  generalize w.alloc (.cells #[.slice A na ca, .slice B n cb] 75) = w1 at hb k0 k1 ⊢
  go_cut [9] from 9 (fun v wx => v = .bool x1 ∧ Below w.heap.size w wx ∧ wx.cell? ⟨w.heap.size, 0, none⟩ = some (.slice A na ca) ∧ wx.cell? ⟨w.heap.size, 1, none⟩ = some (.slice B n cb))
  case first =>
    cases h1 : ([12, 17, 16, 24, 19].contains q) with
    | true =>
      go_wp2_with fail
      refine (tamong_b _ [12, 17, 16, 24, 19] 5 _ _ rfl rfl (by decide)).mono ?_
      rw [h1]
      rintro e wn ⟨rfl, hz⟩
      replace k0 := cell_keep k0 hz
      replace k1 := cell_keep k1 hz
      replace hb := below_step hb hz hb.size
      clear hz
      go_wp2_with fail
      go_meet
      exact ⟨by rw [← H1.out, h1] <;> rfl, hb, k0, k1⟩
    | false =>
      cases h2 : (b == 12) with
      | true =>
        go_wp2_with fail
        refine (tamong_b _ [12, 17, 16, 24, 19] 5 _ _ rfl rfl (by decide)).mono ?_
        rw [h1]
        rintro e wn ⟨rfl, hz⟩
        replace k0 := cell_keep k0 hz
        replace k1 := cell_keep k1 hz
        replace hb := below_step hb hz hb.size
        clear hz
        go_wp2_with fail
        go_meet
        exact ⟨by rw [← H1.out, h1, h2] <;> rfl, hb, k0, k1⟩
      | false =>
        cases yp with
        | true =>
          go_wp2_with fail
          refine (tamong_b _ [12, 17, 16, 24, 19] 5 _ _ rfl rfl (by decide)).mono ?_
          rw [h1]
          rintro e wn ⟨rfl, hz⟩
          replace k0 := cell_keep k0 hz
          replace k1 := cell_keep k1 hz
          replace hb := below_step hb hz hb.size
          clear hz
          go_wp2_with fail
          refine (HCp.out _ hb).mono ?_
          rintro e wn ⟨rfl, hz⟩
          replace k0 := cell_keep k0 hz
          replace k1 := cell_keep k1 hz
          replace hb := below_step hb hz hb.size
          clear hz
          go_wp2_with fail
          go_meet
          exact ⟨by rw [← H1.out, h1, h2] <;> rfl, hb, k0, k1⟩
        | false =>
          go_wp2_with fail
          refine (tamong_b _ [12, 17, 16, 24, 19] 5 _ _ rfl rfl (by decide)).mono ?_
          rw [h1]
          rintro e wn ⟨rfl, hz⟩
          replace k0 := cell_keep k0 hz
          replace k1 := cell_keep k1 hz
          replace hb := below_step hb hz hb.size
          clear hz
          go_wp2_with fail
          refine (HCp.out _ hb).mono ?_
          rintro e wn ⟨rfl, hz⟩
          replace k0 := cell_keep k0 hz
          replace k1 := cell_keep k1 hz
          replace hb := below_step hb hz hb.size
          clear hz
          go_wp2_with fail
          go_meet
          exact ⟨by rw [← H1.out, h1, h2] <;> rfl, hb, k0, k1⟩
  case rest =>
    obtain ⟨rfl, hb, k0, k1⟩ := hcut
    cases x1 with
    | true =>
      go_wp2
      go_ret
      exact ⟨by rw [HW.out]; simp, hb⟩
    | false =>
      go_upto_region 3 with fail
      go_cut [22] from 9 (fun v wx => v = .bool x2 ∧ Below w.heap.size w wx ∧ wx.cell? ⟨w.heap.size, 0, none⟩ = some (.slice A na ca) ∧ wx.cell? ⟨w.heap.size, 1, none⟩ = some (.slice B n cb))
      case first =>
        cases h1 : ([21, 22].contains q) with
        | true =>
          cases yn with
          | true =>
            go_wp2_with fail
            refine (tamong_b _ [21, 22] 2 _ _ rfl rfl (by decide)).mono ?_
            rw [h1]
            rintro e wn ⟨rfl, hz⟩
            replace k0 := cell_keep k0 hz
            replace k1 := cell_keep k1 hz
            replace hb := below_step hb hz hb.size
            clear hz
            go_wp2_with fail
            refine (HCn.out _ hb).mono ?_
            rintro e wn ⟨rfl, hz⟩
            replace k0 := cell_keep k0 hz
            replace k1 := cell_keep k1 hz
            replace hb := below_step hb hz hb.size
            clear hz
            go_wp2_with fail
            go_meet
            exact ⟨by rw [← H2.out, h1] <;> rfl, hb, k0, k1⟩
          | false =>
            go_wp2_with fail
            refine (tamong_b _ [21, 22] 2 _ _ rfl rfl (by decide)).mono ?_
            rw [h1]
            rintro e wn ⟨rfl, hz⟩
            replace k0 := cell_keep k0 hz
            replace k1 := cell_keep k1 hz
            replace hb := below_step hb hz hb.size
            clear hz
            go_wp2_with fail
            refine (HCn.out _ hb).mono ?_
            rintro e wn ⟨rfl, hz⟩
            replace k0 := cell_keep k0 hz
            replace k1 := cell_keep k1 hz
            replace hb := below_step hb hz hb.size
            clear hz
            go_wp2_with fail
            go_meet
            exact ⟨by rw [← H2.out, h1] <;> rfl, hb, k0, k1⟩
        | false =>
          go_wp2_with fail
          refine (tamong_b _ [21, 22] 2 _ _ rfl rfl (by decide)).mono ?_
          rw [h1]
          rintro e wn ⟨rfl, hz⟩
          replace k0 := cell_keep k0 hz
          replace k1 := cell_keep k1 hz
          replace hb := below_step hb hz hb.size
          clear hz
          go_wp2_with fail
          go_meet
          exact ⟨by rw [← H2.out, h1] <;> rfl, hb, k0, k1⟩
      case rest =>
        obtain ⟨rfl, hb, k0, k1⟩ := hcut
        cases x2 with
        | true =>
          go_wp2
          go_ret
          exact ⟨by rw [HW.out]; simp, hb⟩
        | false =>
          go_upto_region 5 with fail
          go_cut [31] from 9 (fun v wx => v = .bool x3 ∧ Below w.heap.size w wx ∧ wx.cell? ⟨w.heap.size, 0, none⟩ = some (.slice A na ca) ∧ wx.cell? ⟨w.heap.size, 1, none⟩ = some (.slice B n cb))
          case first =>
            rcases HX.out with ⟨hlt, x, hx, blk, off, rfl, kx0⟩ | hlt
            · have kx := cell_keep kx0 hb
              have hd : decide (i + 1 < c.length) = true := decide_eq_true (by rw [HL.out]; exact hlt)
              have Hd := Lib.hid (And.intro hd hx)
              have hlt2 : (i : Int) + 1 < (n : Int) := by omega
              clear hd hx kx0
              cases h1 : ([21, 22].contains b) with
              | true =>
                cases h2 : (q == 20) with
                | true =>
                  go_wp2_with fail
                  refine (tamong_b _ [21, 22] 2 _ _ rfl rfl (by decide)).mono ?_
                  rw [h1]
                  rintro e wn ⟨rfl, hz⟩
                  replace k0 := cell_keep k0 hz
                  replace k1 := cell_keep k1 hz
                  replace kx := cell_keep kx hz
                  replace hb := below_step hb hz hb.size
                  clear hz
                  go_wp2_with fail
                  go_meet
                  exact ⟨by rw [← H3.out, Hd.out.1, Hd.out.2, h1, h2]; rfl, hb, k0, k1⟩
                | false =>
                  cases h3 : ([9, 16].contains q) with
                  | true =>
                    cases h4 : (x == 20) with
                    | true =>
                      go_wp2_with fail
                      refine (tamong_b _ [21, 22] 2 _ _ rfl rfl (by decide)).mono ?_
                      rw [h1]
                      rintro e wn ⟨rfl, hz⟩
                      replace k0 := cell_keep k0 hz
                      replace k1 := cell_keep k1 hz
                      replace kx := cell_keep kx hz
                      replace hb := below_step hb hz hb.size
                      clear hz
                      go_wp2_with fail
                      refine (tamong_b _ [9, 16] 2 _ _ rfl rfl (by decide)).mono ?_
                      rw [h3]
                      rintro e wn ⟨rfl, hz⟩
                      replace k0 := cell_keep k0 hz
                      replace k1 := cell_keep k1 hz
                      replace kx := cell_keep kx hz
                      replace hb := below_step hb hz hb.size
                      clear hz
                      go_wp2_with fail
                      go_meet
                      exact ⟨by rw [← H3.out, Hd.out.1, Hd.out.2, h1, h2, h3, h4]; rfl, hb, k0, k1⟩
                    | false =>
                      go_wp2_with fail
                      refine (tamong_b _ [21, 22] 2 _ _ rfl rfl (by decide)).mono ?_
                      rw [h1]
                      rintro e wn ⟨rfl, hz⟩
                      replace k0 := cell_keep k0 hz
                      replace k1 := cell_keep k1 hz
                      replace kx := cell_keep kx hz
                      replace hb := below_step hb hz hb.size
                      clear hz
                      go_wp2_with fail
                      refine (tamong_b _ [9, 16] 2 _ _ rfl rfl (by decide)).mono ?_
                      rw [h3]
                      rintro e wn ⟨rfl, hz⟩
                      replace k0 := cell_keep k0 hz
                      replace k1 := cell_keep k1 hz
                      replace kx := cell_keep kx hz
                      replace hb := below_step hb hz hb.size
                      clear hz
                      go_wp2_with fail
                      go_meet
                      exact ⟨by rw [← H3.out, Hd.out.1, Hd.out.2, h1, h2, h3, h4]; rfl, hb, k0, k1⟩
                  | false =>
                    go_wp2_with fail
                    refine (tamong_b _ [21, 22] 2 _ _ rfl rfl (by decide)).mono ?_
                    rw [h1]
                    rintro e wn ⟨rfl, hz⟩
                    replace k0 := cell_keep k0 hz
                    replace k1 := cell_keep k1 hz
                    replace kx := cell_keep kx hz
                    replace hb := below_step hb hz hb.size
                    clear hz
                    go_wp2_with fail
                    refine (tamong_b _ [9, 16] 2 _ _ rfl rfl (by decide)).mono ?_
                    rw [h3]
                    rintro e wn ⟨rfl, hz⟩
                    replace k0 := cell_keep k0 hz
                    replace k1 := cell_keep k1 hz
                    replace kx := cell_keep kx hz
                    replace hb := below_step hb hz hb.size
                    clear hz
                    go_wp2_with fail
                    go_meet
                    exact ⟨by rw [← H3.out, Hd.out.1, Hd.out.2, h1, h2, h3]; rfl, hb, k0, k1⟩
              | false =>
                go_wp2_with fail
                refine (tamong_b _ [21, 22] 2 _ _ rfl rfl (by decide)).mono ?_
                rw [h1]
                rintro e wn ⟨rfl, hz⟩
                replace k0 := cell_keep k0 hz
                replace k1 := cell_keep k1 hz
                replace kx := cell_keep kx hz
                replace hb := below_step hb hz hb.size
                clear hz
                go_wp2_with fail
                go_meet
                exact ⟨by rw [← H3.out, Hd.out.1, Hd.out.2, h1]; rfl, hb, k0, k1⟩
            · have Hd : Hid (decide (i + 1 < c.length) = false) := Lib.hid (decide_eq_false (by rw [HL.out]; exact hlt))
              have hlt2 : ¬ (i : Int) + 1 < (n : Int) := by omega
              cases h1 : ([21, 22].contains b) with
              | true =>
                cases h2 : (q == 20) with
                | true =>
                  go_wp2_with fail
                  refine (tamong_b _ [21, 22] 2 _ _ rfl rfl (by decide)).mono ?_
                  rw [h1]
                  rintro e wn ⟨rfl, hz⟩
                  replace k0 := cell_keep k0 hz
                  replace k1 := cell_keep k1 hz
                  replace hb := below_step hb hz hb.size
                  clear hz
                  go_wp2_with fail
                  go_meet
                  exact ⟨by rw [← H3.out, Hd.out, h1, h2]; rfl, hb, k0, k1⟩
                | false =>
                  cases h3 : ([9, 16].contains q) with
                  | true =>
                    go_wp2_with fail
                    refine (tamong_b _ [21, 22] 2 _ _ rfl rfl (by decide)).mono ?_
                    rw [h1]
                    rintro e wn ⟨rfl, hz⟩
                    replace k0 := cell_keep k0 hz
                    replace k1 := cell_keep k1 hz
                    replace hb := below_step hb hz hb.size
                    clear hz
                    go_wp2_with fail
                    refine (tamong_b _ [9, 16] 2 _ _ rfl rfl (by decide)).mono ?_
                    rw [h3]
                    rintro e wn ⟨rfl, hz⟩
                    replace k0 := cell_keep k0 hz
                    replace k1 := cell_keep k1 hz
                    replace hb := below_step hb hz hb.size
                    clear hz
                    go_wp2_with fail
                    go_meet
                    exact ⟨by rw [← H3.out, Hd.out, h1, h2, h3]; rfl, hb, k0, k1⟩
                  | false =>
                    go_wp2_with fail
                    refine (tamong_b _ [21, 22] 2 _ _ rfl rfl (by decide)).mono ?_
                    rw [h1]
                    rintro e wn ⟨rfl, hz⟩
                    replace k0 := cell_keep k0 hz
                    replace k1 := cell_keep k1 hz
                    replace hb := below_step hb hz hb.size
                    clear hz
                    go_wp2_with fail
                    refine (tamong_b _ [9, 16] 2 _ _ rfl rfl (by decide)).mono ?_
                    rw [h3]
                    rintro e wn ⟨rfl, hz⟩
                    replace k0 := cell_keep k0 hz
                    replace k1 := cell_keep k1 hz
                    replace hb := below_step hb hz hb.size
                    clear hz
                    go_wp2_with fail
                    go_meet
                    exact ⟨by rw [← H3.out, Hd.out, h1, h2, h3]; rfl, hb, k0, k1⟩
              | false =>
                go_wp2_with fail
                refine (tamong_b _ [21, 22] 2 _ _ rfl rfl (by decide)).mono ?_
                rw [h1]
                rintro e wn ⟨rfl, hz⟩
                replace k0 := cell_keep k0 hz
                replace k1 := cell_keep k1 hz
                replace hb := below_step hb hz hb.size
                clear hz
                go_wp2_with fail
                go_meet
                exact ⟨by rw [← H3.out, Hd.out, h1]; rfl, hb, k0, k1⟩
          case rest =>
            obtain ⟨rfl, hb, k0, k1⟩ := hcut
            cases x3 with
            | true =>
              go_wp2
              go_ret
              exact ⟨by rw [HW.out]; simp, hb⟩
            | false =>
              cases h1 : (q == 25) with
              | false =>
                go_wp2
                go_ret
                exact ⟨by rw [HW.out, h1]; rfl, hb⟩
              | true =>
                have HV : Hid (lLetters c i b q = ((R1 : Int) % 2 == 1)) := Lib.hid (by
                  rw [HW.out, h1]
                  simp only [Bool.false_or, Bool.true_and]
                  rcases (by omega : R1 % 2 = 0 ∨ R1 % 2 = 1) with h | h
                  · rw [h, show (R1 : Int) % 2 = 0 by omega]; rfl
                  · rw [h, show (R1 : Int) % 2 = 1 by omega]; rfl)
                go_wp2_with fail
                refine (HCr.out _ hb).mono ?_
                rintro e wn ⟨rfl, hz⟩
                go_wp2
                go_ret
                exact ⟨by rw [HV.out]; rfl, below_step hb hz hb.size⟩
end Go.Proofs.YtinfnfgflcjfmaaGreatDoor

/-
  PLAIN: a line of a database as the document parts it, and as the program does: the same. No walk.
-/
namespace Go.Proofs.YtinfnfgflcjfmaaGreatDoor

/- Blanks at both ends. -/
def trimR (l : List UInt8) : List UInt8 := (l.reverse.dropWhile blkB).reverse
theorem trimL_eq (l : List UInt8) : trimL l = trimR (l.dropWhile blkB) := rfl
theorem dropWhile_all {p : UInt8 → Bool} : ∀ {l : List UInt8}, (∀ c ∈ l, p c = true) → l.dropWhile p = []
  | [], _ => rfl
  | x :: r, h => by rw [List.dropWhile_cons, if_pos (h x (by simp)), dropWhile_all (fun c hc => h c (by simp [hc]))]
theorem dropWhile_app {p : UInt8 → Bool} : ∀ {b l : List UInt8}, (∀ c ∈ b, p c = true) → (b ++ l).dropWhile p = l.dropWhile p
  | [], _, _ => rfl
  | x :: b, l, h => by rw [List.cons_append, List.dropWhile_cons, if_pos (h x (by simp)), dropWhile_app (fun c hc => h c (by simp [hc]))]
theorem dropWhile_stop {p : UInt8 → Bool} {x : UInt8} {r : List UInt8} (h : p x = false) : (x :: r).dropWhile p = x :: r := by
  rw [List.dropWhile_cons, if_neg (by rw [h]; decide)]
/-- Neither its first byte nor its last one is a blank. -/
def Bare (u : List UInt8) : Prop := u = [] ∨ (∃ x, u.head? = some x ∧ blkB x = false) ∧ ∃ y, u.getLast? = some y ∧ blkB y = false
theorem bare_head {u : List UInt8} (h : Bare u) : u.dropWhile blkB = u := by
  rcases h with rfl | ⟨⟨x, hx, hb⟩, _⟩
  · rfl
  · cases u with
    | nil => simp at hx
    | cons y r => simp at hx; subst hx; exact dropWhile_stop hb
theorem bare_last {u : List UInt8} (h : Bare u) : trimR u = u := by
  unfold trimR
  have : u.reverse.dropWhile blkB = u.reverse := by
    rcases h with rfl | ⟨_, ⟨y, hy, hb⟩⟩
    · rfl
    · rcases List.eq_nil_or_concat u with rfl | ⟨o, z, rfl⟩
      · simp at hy
      · rw [List.concat_eq_append] at hy ⊢
        simp at hy; subst hy
        rw [List.reverse_append, List.reverse_singleton, List.singleton_append]
        exact dropWhile_stop hb
  rw [this, List.reverse_reverse]
theorem trimR_app {l e : List UInt8} (he : ∀ c ∈ e, blkB c = true) : trimR (l ++ e) = trimR l := by
  unfold trimR
  rw [List.reverse_append, dropWhile_app (fun c hc => he c (List.mem_reverse.1 hc))]
theorem trim_unique {b u e : List UInt8} (hb : ∀ c ∈ b, blkB c = true) (he : ∀ c ∈ e, blkB c = true) (hu : Bare u) : trimL (b ++ u ++ e) = u := by
  rw [trimL_eq, List.append_assoc, dropWhile_app hb]
  by_cases h0 : u = []
  · subst h0
    rw [List.nil_append, dropWhile_all he]; rfl
  · have hne : (u ++ e).dropWhile blkB = u ++ e := by
      rcases hu with h | ⟨⟨x, hx, hb⟩, _⟩
      · exact absurd h h0
      · cases u with
        | nil => simp at hx
        | cons y r => simp at hx; subst hx; rw [List.cons_append]; exact dropWhile_stop hb
    rw [hne, trimR_app he, bare_last hu]
theorem takeWhile_all {p : UInt8 → Bool} : ∀ (l : List UInt8), ∀ c ∈ l.takeWhile p, p c = true
  | [], c, h => by simp at h
  | x :: r, c, h => by
    rw [List.takeWhile_cons] at h
    split at h
    · rename_i hx
      rcases List.mem_cons.1 h with rfl | h
      · exact hx
      · exact takeWhile_all r c h
    · simp at h
theorem dropWhile_head {p : UInt8 → Bool} : ∀ (l : List UInt8), l.dropWhile p = [] ∨ ∃ x, (l.dropWhile p).head? = some x ∧ p x = false
  | [] => .inl rfl
  | x :: r => by
    rw [List.dropWhile_cons]
    cases hx : p x with
    | true => rw [if_pos rfl]; exact dropWhile_head r
    | false => rw [if_neg (by decide)]; exact .inr ⟨x, rfl, hx⟩
theorem trimR_parts (l : List UInt8) : ∃ e, l = trimR l ++ e ∧ (∀ c ∈ e, blkB c = true) ∧ (trimR l = [] ∨ ∃ y, (trimR l).getLast? = some y ∧ blkB y = false) := by
  refine ⟨(l.reverse.takeWhile blkB).reverse, ?_, fun c hc => takeWhile_all _ c (List.mem_reverse.1 hc), ?_⟩
  · unfold trimR
    rw [← List.reverse_append, List.takeWhile_append_dropWhile, List.reverse_reverse]
  · unfold trimR
    rcases dropWhile_head (p := blkB) l.reverse with h | ⟨x, h1, h2⟩
    · rw [h]; exact .inl rfl
    · exact .inr ⟨x, by rw [List.getLast?_reverse]; exact h1, h2⟩
theorem trimL_parts (l : List UInt8) : ∃ b e, l = b ++ trimL l ++ e ∧ (∀ c ∈ b, blkB c = true) ∧ (∀ c ∈ e, blkB c = true) ∧ Bare (trimL l) := by
  obtain ⟨e, h1, h2, h3⟩ := trimR_parts (l.dropWhile blkB)
  refine ⟨l.takeWhile blkB, e, ?_, takeWhile_all l, h2, ?_⟩
  · rw [List.append_assoc, trimL_eq, ← h1, List.takeWhile_append_dropWhile]
  · rw [trimL_eq]
    rcases h3 with h3 | h3
    · exact .inl h3
    · refine .inr ⟨?_, h3⟩
      rcases dropWhile_head (p := blkB) l with h | ⟨x, hx, hb⟩
      · rw [h] at h3; obtain ⟨y, hy, _⟩ := h3; simp [trimR] at hy
      · refine ⟨x, ?_, hb⟩
        have hne : trimR (l.dropWhile blkB) ≠ [] := by intro e0; obtain ⟨y, hy, _⟩ := h3; rw [e0] at hy; simp at hy
        rw [h1] at hx
        cases hz : trimR (l.dropWhile blkB) with
        | nil => exact absurd hz hne
        | cons z zs => rw [hz, List.cons_append, List.head?_cons] at hx; rw [List.head?_cons]; exact hx
theorem trimL_bare (l : List UInt8) : Bare (trimL l) := by obtain ⟨_, _, _, _, _, h⟩ := trimL_parts l; exact h
theorem trimL_trail {l e : List UInt8} (he : ∀ c ∈ e, blkB c = true) : trimL (l ++ e) = trimL l := by
  obtain ⟨b, f, h1, h2, h3, h4⟩ := trimL_parts l
  have : l ++ e = b ++ trimL l ++ (f ++ e) := by conv => lhs; rw [h1]
                                                 simp
  rw [this]
  exact trim_unique h2 (fun c hc => (List.mem_append.1 hc).elim (h3 c) (he c)) h4
/-- The library's Trim at the two blanks. -/
theorem trimS_eq (l : List UInt8) : Lib.trimS l [32, 9] = trimL l := by
  have hp : (fun c => ([32, 9] : List UInt8).contains c) = blkB := by
    funext c
    simp only [blkB, List.contains_cons, List.contains_nil, Bool.or_false]
  unfold Lib.trimS Lib.trimLeftS Lib.trimRightS
  rw [hp]
  show (trimR l).dropWhile blkB = trimL l
  obtain ⟨e, h1, h2, h3⟩ := trimR_parts l
  have hb : Bare ((trimR l).dropWhile blkB) := by
    rcases dropWhile_head (p := blkB) (trimR l) with h | h
    · exact .inl h
    · refine .inr ⟨h, ?_⟩
      obtain ⟨x, hx, _⟩ := h
      rcases h3 with h3 | ⟨y, hy, hyb⟩
      · rw [h3] at hx; simp at hx
      · refine ⟨y, ?_, hyb⟩
        have hne : (trimR l).dropWhile blkB ≠ [] := by intro e0; rw [e0] at hx; simp at hx
        have h5 := List.takeWhile_append_dropWhile (p := blkB) (l := trimR l)
        rw [← h5, List.getLast?_append] at hy
        cases hz : ((trimR l).dropWhile blkB).getLast? with
        | none => exact absurd (List.getLast?_eq_none_iff.1 hz) hne
        | some z => rw [hz] at hy; simpa using hy
  have h5 := List.takeWhile_append_dropWhile (p := blkB) (l := trimR l)
  have h6 : l = (trimR l).takeWhile blkB ++ (trimR l).dropWhile blkB ++ e := by rw [h5]; exact h1
  conv => rhs; rw [h6]
  exact (trim_unique (takeWhile_all _) h2 hb).symm

/- The document's scan of a line: where the remark begins, where the line is parted. -/
def cutGo : Nat → List UInt8 → Nat → Option Nat → Nat × Option Nat
  | 0, _, i, semi => (i, semi)
  | _ + 1, [], i, semi => (i, semi)
  | f + 1, x :: r, i, semi => match qtL (x :: r) with
    | some k => cutGo f ((x :: r).drop k) (i + k) semi
    | none => if x = 35 then (i, semi) else if x = 59 ∧ semi = none then cutGo f r (i + 1) (some i) else cutGo f r (i + 1) semi
/-- How much of a line stands ahead of its remark. -/
def hashP (l : List UInt8) : Nat := (findP 35 l).getD l.length
theorem cutGo_eq : ∀ (f : Nat) (l : List UInt8) (i : Nat) (semi : Option Nat), l.length ≤ f →
    cutGo f l i semi = (i + hashP l, match semi with | some k => some k | none => (findP 59 (l.take (hashP l))).map (· + i))
  | 0, l, i, semi, h => by
    have : l = [] := List.eq_nil_of_length_eq_zero (by omega)
    subst this
    cases semi <;> simp [cutGo, hashP, findP_nil]
  | f + 1, [], i, semi, _ => by cases semi <;> simp [cutGo, hashP, findP_nil]
  | f + 1, x :: r, i, semi, h => by
    simp only [List.length_cons] at h
    unfold cutGo
    cases hq : qtL (x :: r) with
    | some k =>
      have h1 := qtL_some hq
      simp only [List.length_cons] at h1
      have hh : hashP (x :: r) = k + hashP ((x :: r).drop k) := by
        unfold hashP
        rw [findP_qt hq]
        cases findP 35 ((x :: r).drop k) with
        | some j => simp; omega
        | none => simp; omega
      have ih := cutGo_eq f ((x :: r).drop k) (i + k) semi (by rw [List.length_drop, List.length_cons]; omega)
      simp only
      rw [ih, hh]
      refine Prod.ext (by simp only; omega) ?_
      cases semi with
      | some m => rfl
      | none =>
        simp only
        rw [findP_qt (qtL_take hq (Nat.le_add_right _ _)), List.drop_take, Nat.add_sub_cancel_left, Option.map_map]
        congr 1
        funext m; simp only [Function.comp]; omega
    | none =>
      simp only
      by_cases hx : x = 35
      · subst hx
        have hh : hashP (35 :: r) = 0 := by unfold hashP; rw [findP_cons hq, if_pos rfl]; rfl
        rw [if_pos rfl, hh]
        cases semi <;> simp [findP_nil]
      · have hh : hashP (x :: r) = hashP r + 1 := by
          unfold hashP
          rw [findP_cons hq, if_neg hx]
          cases findP 35 r with
          | some j => rfl
          | none => rfl
        have hq2 : qtL (x :: r.take (hashP r)) = none := by
          cases h2 : qtL (x :: r.take (hashP r)) with
          | none => rfl
          | some k =>
            have : qtL ((x :: r).take (hashP r + 1)) = some k := h2
            rw [qtL_of_take this] at hq; cases hq
        rw [if_neg hx, hh, List.take_succ_cons, findP_cons hq2]
        by_cases h59 : x = 59
        · subst h59
          cases semi with
          | some m =>
            rw [if_neg (by simp)]
            rw [cutGo_eq f r (i + 1) _ (by omega)]
            exact Prod.ext (by simp only; omega) rfl
          | none =>
            rw [if_pos ⟨rfl, rfl⟩, cutGo_eq f r (i + 1) _ (by omega), if_pos rfl]
            exact Prod.ext (by simp only; omega) (by simp)
        · rw [if_neg (fun h => h59 h.1), cutGo_eq f r (i + 1) _ (by omega), if_neg h59]
          refine Prod.ext (by simp only; omega) ?_
          cases semi with
          | some m => rfl
          | none =>
            simp only
            rw [Option.map_map]
            congr 1
            funext m; simp only [Function.comp]; omega

/- A spelling with blanks ahead. -/
def spcL (l : List UInt8) : List UInt8 := l.map fun c => if c = 9 then 32 else c
def parseE (l : List UInt8) : Except Int (List (Int × Int)) := match parseP (bytesOf l) with | .error x => .error x.1 | .ok l => .ok l
def shE {α : Type} : Except (Int × Nat) (α × Nat) → Except (Int × Nat) (α × Nat)
  | .error (e, p) => .error (e, p + 1)
  | .ok (x, q) => .ok (x, q + 1)
section
variable {l : List UInt8}
theorem rest_sh (c : UInt8) (a : Nat) : rest (bytesOf (c :: l)) (a + 1) = rest (bytesOf l) a := by unfold rest; rw [bytesOf_list, bytesOf_list]; rfl
theorem runeAt_sh (c : UInt8) (a : Nat) : runeAt (bytesOf (c :: l)) (a + 1) = runeAt (bytesOf l) a := by
  unfold runeAt
  have h1 : a + 1 < (bytesOf (c :: l)).size ↔ a < (bytesOf l).size := by rw [bytesOf_size, bytesOf_size, List.length_cons]; omega
  have hd : Utf8.decode (bytesOf (c :: l)) (a + 1) = Utf8.decode (bytesOf l) a := by
    rw [Lib.decode_at, Lib.decode_at]
    have hs : (bytesOf (c :: l)).size - (a + 1) = (bytesOf l).size - a := by rw [bytesOf_size, bytesOf_size, List.length_cons]; omega
    have hg : ∀ k, (bytesOf (c :: l)).get! (a + 1 + k) = (bytesOf l).get! (a + k) := fun k => by
      rw [bytesOf_get, bytesOf_get, show a + 1 + k = a + k + 1 by omega]; rfl
    have hg0 : (bytesOf (c :: l)).get! (a + 1) = (bytesOf l).get! a := hg 0
    rw [hs, hg0, hg 1, hg 2, hg 3]
  by_cases h : a < (bytesOf l).size
  · rw [if_pos h, if_pos (h1.2 h), hd]
  · rw [if_neg h, if_neg (fun k => h (h1.1 k))]
theorem hexRun_sh (c : UInt8) (a : Nat) : hexRun (bytesOf (c :: l)) (a + 1) = hexRun (bytesOf l) a := by unfold hexRun; rw [rest_sh]
theorem numP_sh (c : UInt8) (a : Nat) : numP (bytesOf (c :: l)) (a + 1) = shE (numP (bytesOf l) a) := by
  unfold numP
  rw [show a + 1 + 2 = (a + 2) + 1 by omega, hexRun_sh]
  split
  · rfl
  · split
    · rfl
    · simp only [shE]; congr 2; omega
theorem quoP_sh (c : UInt8) (a : Nat) : quoP (bytesOf (c :: l)) (a + 1) = shE (quoP (bytesOf l) a) := by
  unfold quoP
  rw [runeAt_sh c (a + 1), show a + 1 + 1 + (runeAt (bytesOf l) (a + 1)).2 = (a + 1 + (runeAt (bytesOf l) (a + 1)).2) + 1 by omega, rest_sh]
  split
  · rfl
  · split
    · rfl
    · split
      · rfl
      · simp only [shE]; congr 2; omega
theorem runeP_sh (c : UInt8) (a : Nat) : runeP (bytesOf (c :: l)) (a + 1) = shE (runeP (bytesOf l) a) := by
  unfold runeP
  rw [rest_sh, numP_sh, quoP_sh]
  split
  · rfl
  · split
    · rfl
    · rfl
theorem itemP_sh (c : UInt8) (a : Nat) : itemP (bytesOf (c :: l)) (a + 1) = shE (itemP (bytesOf l) a) := by
  unfold itemP
  rw [runeP_sh]
  cases h1 : runeP (bytesOf l) a with
  | error x => rfl
  | ok x =>
    obtain ⟨lo, p⟩ := x
    simp only [shE]
    rw [rest_sh, runeP_sh c (p + 1)]
    by_cases hd : (rest (bytesOf l) p).head? = some 45
    · rw [if_pos hd, if_pos hd]
      cases h2 : runeP (bytesOf l) (p + 1) with
      | error y => rfl
      | ok y =>
        obtain ⟨hi, q⟩ := y
        simp only [shE]
        rw [rest_sh]
        split
        · rfl
        · split
          · rfl
          · rfl
    · rw [if_neg hd, if_neg hd]
      simp only
      rw [rest_sh]
      split
      · rfl
      · split
        · rfl
        · rfl
theorem parseGo_sh (c : UInt8) : ∀ (f a : Nat) (acc : List (Int × Int)), (match parseGo (bytesOf (c :: l)) f (a + 1) acc with | .error x => .error x.1 | .ok l => .ok l : Except Int (List (Int × Int))) = match parseGo (bytesOf l) f a acc with | .error x => .error x.1 | .ok l => .ok l
  | 0, a, acc => rfl
  | f + 1, a, acc => by
    unfold parseGo
    rw [rest_sh]
    cases hh : (rest (bytesOf l) a).head? with
    | none => rfl
    | some d =>
      simp only
      by_cases h32 : d = 32
      · rw [if_pos h32, if_pos h32]; exact parseGo_sh c f (a + 1) acc
      · rw [if_neg h32, if_neg h32, itemP_sh]
        cases hi : itemP (bytesOf l) a with
        | error x => rfl
        | ok x => obtain ⟨x, q⟩ := x; exact parseGo_sh c f q (acc ++ [x])
end
theorem parseE_blank (l : List UInt8) : parseE (32 :: l) = parseE l := by
  unfold parseE parseP
  rw [bytesOf_size, bytesOf_size, List.length_cons]
  have h : parseGo (bytesOf (32 :: l)) (l.length + 1 + 1) 0 [] = parseGo (bytesOf (32 :: l)) (l.length + 1) (0 + 1) [] := by
    conv => lhs; unfold parseGo
    have : (rest (bytesOf (32 :: l)) 0).head? = some 32 := by unfold rest; rw [bytesOf_list]; rfl
    rw [this]; simp only [if_true]
  rw [h]
  exact parseGo_sh 32 _ 0 []
theorem parseE_blanks : ∀ (b l : List UInt8), (∀ c ∈ b, blkB c = true) → parseE (spcL (b ++ l)) = parseE (spcL l)
  | [], _, _ => rfl
  | x :: b, l, h => by
    have hx := h x (by simp)
    have : (if x = 9 then (32 : UInt8) else x) = 32 := by
      simp only [blkB, Bool.or_eq_true, beq_iff_eq] at hx
      rcases hx with rfl | rfl
      · rfl
      · rfl
    rw [List.cons_append]
    show parseE ((if x = 9 then 32 else x) :: spcL (b ++ l)) = _
    rw [this, parseE_blank, parseE_blanks b l (fun c hc => h c (by simp [hc]))]

/-- What a line says: nothing; or why it is none; or its name's text, and its set. -/
inductive Line where
  | none_ : Line
  | noLine : Line
  | says (name : List UInt8) (set : List UInt8) : Line
/-- As the program parts it. -/
def lineP (l : List UInt8) : Line :=
  let u := trimL (l.take (hashP l))
  if u = [] then .none_ else match findP 59 u with
  | none => .noLine
  | some j => .says (trimL (u.drop (j + 1))) (u.take j)
/-- As the document does. -/
def lineD (l : List UInt8) : Line :=
  let t := l.take (hashP l)
  if trimL t = [] then .none_ else match findP 59 t with
  | none => .noLine
  | some j => .says (trimL (t.drop (j + 1))) (t.take j)
/-- Do two lines say the same? Blanks ahead of a set do not count. -/
def Line.same : Line → Line → Prop
  | .none_, .none_ => True
  | .noLine, .noLine => True
  | .says n s, .says m t => n = m ∧ parseE (spcL s) = parseE (spcL t)
  | _, _ => False
theorem line_same (l : List UInt8) : Line.same (lineD l) (lineP l) := by
  unfold lineD lineP
  simp only
  generalize l.take (hashP l) = t
  obtain ⟨b, e, h1, h2, h3, h4⟩ := trimL_parts t
  by_cases h0 : trimL t = []
  · rw [if_pos h0, if_pos h0]; trivial
  · rw [if_neg h0, if_neg h0]
    have hf : findP 59 t = (findP 59 (trimL t)).map (· + b.length) := by
      conv => lhs; rw [h1]
      rw [List.append_assoc, findP_lead (by decide) _ _ h2, findP_trail (by decide) _ _ _ (Nat.le_refl _) h3]
    rw [hf]
    cases hj : findP 59 (trimL t) with
    | none => trivial
    | some j =>
      have hlt := (List.getElem?_eq_some_iff.1 (findP_lt (trimL t).length (trimL t) (Nat.le_refl _) j hj)).1
      simp only [Option.map_some, Line.same]
      constructor
      · conv => lhs; rw [h1]
        rw [List.append_assoc, show j + b.length + 1 = b.length + (j + 1) by omega, ← List.drop_drop, List.drop_left, List.drop_append_of_le_length (by omega), trimL_trail h3]
      · conv => lhs; rw [h1]
        rw [List.append_assoc, show j + b.length = b.length + j by omega, List.take_append, List.take_of_length_le (by omega), Nat.add_sub_cancel_left, List.take_append_of_le_length (by omega), parseE_blanks _ _ h2]
end Go.Proofs.YtinfnfgflcjfmaaGreatDoor

/-
  PLAIN: a database: its lines, its classes, their sets; whether two sets meet. No walk.
-/
namespace Go.Proofs.YtinfnfgflcjfmaaGreatDoor

def letB (c : UInt8) : Bool := decide (65 ≤ c.toNat ∧ c.toNat ≤ 90) || decide (97 ≤ c.toNat ∧ c.toNat ≤ 122)
def partB (c : UInt8) : Bool := letB c || decide (48 ≤ c.toNat ∧ c.toNat ≤ 57) || c == 95
/-- May a class be called so? -/
def nameL : List UInt8 → Bool
  | [] => false
  | c :: r => letB c && r.all partB && decide (r.length ≤ 31)
def otherL : List UInt8 := [79, 116, 104, 101, 114]
/-- Do two sets have a rune in common? -/
def meetB (a b : List (Int × Int)) : Bool := a.any fun x => b.any fun y => decide (x.1 ≤ y.2) && decide (y.1 ≤ x.2)
theorem meetB_nil_left (b : List (Int × Int)) : meetB [] b = false := rfl
theorem meetB_nil_right (a : List (Int × Int)) : meetB a [] = false := by simp [meetB]
theorem meetB_iff {a b : List (Int × Int)} (ha : Nf a) (hb : Nf b) : meetB a b = true ↔ ∃ r, memR a r ∧ memR b r := by
  simp only [meetB, List.any_eq_true, Bool.and_eq_true, decide_eq_true_eq, memR]
  constructor
  · rintro ⟨x, hx, y, hy, h1, h2⟩
    have := Nf_le ha x hx; have := Nf_le hb y hy
    rcases Int.le_total x.1 y.1 with h | h
    · exact ⟨y.1, ⟨x, hx, h, h2⟩, y, hy, by omega, by omega⟩
    · exact ⟨x.1, ⟨x, hx, by omega, by omega⟩, y, hy, h, h1⟩
  · rintro ⟨r, ⟨x, hx, h1, h2⟩, y, hy, h3, h4⟩
    exact ⟨x, hx, y, hy, by omega, by omega⟩
/-- The program's way: side by side. -/
theorem meetB_left {x : Int × Int} {a : List (Int × Int)} {y : Int × Int} {b : List (Int × Int)} (hb : Nf (y :: b)) (h : x.2 < y.1) : meetB (x :: a) (y :: b) = meetB a (y :: b) := by
  have e : ((y :: b).any fun z => decide (x.1 ≤ z.2) && decide (z.1 ≤ x.2)) = false := by
    rw [List.any_eq_false]
    intro z hz
    have : y.1 ≤ z.1 := by
      rcases List.mem_cons.1 hz with rfl | hz
      · omega
      · have := hb.2.1 z hz; have := hb.1; omega
    simp; omega
  unfold meetB
  rw [List.any_cons, e, Bool.false_or]
theorem meetB_right {x : Int × Int} {a : List (Int × Int)} {y : Int × Int} {b : List (Int × Int)} (ha : Nf (x :: a)) (h : y.2 < x.1) : meetB (x :: a) (y :: b) = meetB (x :: a) b := by
  have e : ∀ z ∈ x :: a, (decide (z.1 ≤ y.2) && decide (y.1 ≤ z.2)) = false := fun z hz => by
    have : x.1 ≤ z.1 := by
      rcases List.mem_cons.1 hz with rfl | hz
      · omega
      · have := ha.2.1 z hz; have := ha.1; omega
    simp; omega
  unfold meetB
  rw [Bool.eq_iff_iff, List.any_eq_true, List.any_eq_true]
  constructor
  · rintro ⟨z, hz, hq⟩
    rw [List.any_cons, e z hz, Bool.false_or] at hq
    exact ⟨z, hz, hq⟩
  · rintro ⟨z, hz, hq⟩
    exact ⟨z, hz, by rw [List.any_cons, hq, Bool.or_true]⟩
theorem meetB_here {x : Int × Int} {a : List (Int × Int)} {y : Int × Int} {b : List (Int × Int)} (h1 : ¬ x.2 < y.1) (h2 : ¬ y.2 < x.1) : meetB (x :: a) (y :: b) = true := by
  unfold meetB
  rw [List.any_cons, List.any_cons]
  have : (decide (x.1 ≤ y.2) && decide (y.1 ≤ x.2)) = true := by simp; omega
  rw [this]; simp

/-- A database: the names by numbers; of each its set (of number 0 nothing yet). -/
structure DbP where
  names : List (List UInt8)
  sets : List (List (Int × Int))
def DbP.first : DbP := ⟨[otherL], [[]]⟩
def DbP.num (d : DbP) (n : List UInt8) : Option Nat := d.names.idxOf? n
def DbP.clash (d : DbP) (c : Nat) (l : List (Int × Int)) : Bool := (List.range d.sets.length).any fun k => decide (k ≠ c) && meetB (d.sets.getD k []) l
/-- What a line adds. -/
def addL (d : DbP) (name set : List UInt8) : Except Int DbP :=
  if nameL name = false ∨ name = otherL then .error 40 else
  match parseE (spcL set) with
  | .error e => .error e
  | .ok l =>
    match d.num name with
    | some c => if d.clash c (normR l) then .error 41 else .ok ⟨d.names, d.sets.set c (orR (d.sets.getD c []) (normR l))⟩
    | none => if 64 ≤ d.names.length then .error 6 else if d.clash d.names.length (normR l) then .error 41 else .ok ⟨d.names ++ [name], d.sets ++ [orR [] (normR l)]⟩
def stepL (d : DbP) (l : List UInt8) : Except Int DbP :=
  match lineP l with
  | .none_ => .ok d
  | .noLine => .error 42
  | .says n s => addL d n s
/-- The lines of a text. -/
def splitL : List UInt8 → List (List UInt8)
  | [] => [[]]
  | c :: r => if c = 10 then [] :: splitL r else match splitL r with
    | [] => [[c]]
    | x :: t => (c :: x) :: t
def linesGo (d : DbP) : List (List UInt8) → Nat → Except (Int × Nat) DbP
  | [], _ => .ok d
  | l :: r, i => match stepL d l with
    | .error e => .error (e, i + 1)
    | .ok d' => linesGo d' r (i + 1)
/-- The classes of a text; number 0 has nothing yet. -/
def newP (t : List UInt8) : Except (Int × Nat) DbP := if 65536 < t.length then .error (1, 0) else linesGo DbP.first (splitL t) 0
/-- What number 0 has: what no other has. -/
def DbP.rest (d : DbP) : List (Int × Int) := notR (d.sets.tail.flatten)
/-- As the document's line says it: the same step. -/
theorem stepL_doc (d : DbP) (l : List UInt8) : stepL d l = match lineD l with
    | .none_ => .ok d
    | .noLine => .error 42
    | .says n s => addL d n s := by
  have h := line_same l
  unfold stepL
  cases h1 : lineD l with
  | none_ =>
    rw [h1] at h
    cases h2 : lineP l with
    | none_ => rfl
    | noLine => rw [h2] at h; exact h.elim
    | says n s => rw [h2] at h; exact h.elim
  | noLine =>
    rw [h1] at h
    cases h2 : lineP l with
    | none_ => rw [h2] at h; exact h.elim
    | noLine => rfl
    | says n s => rw [h2] at h; exact h.elim
  | says n s =>
    rw [h1] at h
    cases h2 : lineP l with
    | none_ => rw [h2] at h; exact h.elim
    | noLine => rw [h2] at h; exact h.elim
    | says m t =>
      rw [h2] at h
      obtain ⟨rfl, h3⟩ := h
      simp only [addL, h3]
/-- What a database keeps: as many sets as names; each set in normal form; no name twice; the first one is that of the others. -/
structure DbP.Ok (d : DbP) : Prop where
  len : d.sets.length = d.names.length
  nf : ∀ l ∈ d.sets, NF l
  nodup : d.names.Nodup
  head : d.names.head? = some otherL
  head' : d.sets.head? = some []
  few : d.names.length ≤ 64
theorem DbP.first_ok : DbP.first.Ok := ⟨rfl, fun l hl => by simp [DbP.first] at hl; subst hl; exact ⟨trivial, by simp⟩, by simp [DbP.first], rfl, rfl, by simp [DbP.first]⟩
theorem idxOf?_some {α : Type} [BEq α] [LawfulBEq α] {l : List α} {x : α} {i : Nat} (h : l.idxOf? x = some i) : l[i]? = some x := by
  rw [List.idxOf?, List.findIdx?_eq_some_iff_getElem] at h
  obtain ⟨hi, h1, _⟩ := h
  rw [List.getElem?_eq_getElem hi]
  simpa using h1
theorem idxOf?_none {α : Type} [BEq α] [LawfulBEq α] {l : List α} {x : α} (h : l.idxOf? x = none) : x ∉ l := by
  rw [List.idxOf?, List.findIdx?_eq_none_iff] at h
  intro hx
  have := h x hx
  simp at this
theorem addL_ok {d d' : DbP} {n s : List UInt8} (h : d.Ok) (ha : addL d n s = .ok d') : d'.Ok := by
  unfold addL at ha
  split at ha
  · cases ha
  · rename_i hn
    split at ha
    · cases ha
    · rename_i l _
      have hno : n ≠ otherL := fun e => hn (.inr e)
      split at ha
      · rename_i c hc
        split at ha
        · cases ha
        · injection ha with ha; subst ha
          have hci := idxOf?_some hc
          have hc0 : c ≠ 0 := by
            rintro rfl
            have := h.head
            rw [List.head?_eq_getElem?, hci] at this
            injection this with this; exact hno this
          refine ⟨by simp [h.len], fun q hq => ?_, h.nodup, h.head, ?_, h.few⟩
          · rcases List.mem_or_eq_of_mem_set hq with hq | rfl
            · exact h.nf q hq
            · exact orR_NF _ _
          · have := h.head'
            rw [List.head?_eq_getElem?] at this ⊢
            rw [List.getElem?_set_ne hc0]; exact this
      · rename_i hc
        split at ha
        · cases ha
        · rename_i h64
          split at ha
          · cases ha
          · injection ha with ha; subst ha
            have hne : d.sets ≠ [] := by intro e; have := h.head'; rw [e] at this; cases this
            have hne' : d.names ≠ [] := by intro e; have := h.head; rw [e] at this; cases this
            refine ⟨by simp [h.len], fun q hq => ?_, ?_, ?_, ?_, by simp only [List.length_append, List.length_singleton]; omega⟩
            · rcases List.mem_append.1 hq with hq | hq
              · exact h.nf q hq
              · simp at hq; subst hq; exact orR_NF _ _
            · rw [List.nodup_append]
              exact ⟨h.nodup, by simp, fun a ha b hb e => by simp at hb; subst hb; subst e; exact idxOf?_none hc ha⟩
            · cases hz : d.names with
              | nil => exact absurd hz hne'
              | cons z zs => have := h.head; rw [hz] at this; simpa using this
            · cases hz : d.sets with
              | nil => exact absurd hz hne
              | cons z zs => have := h.head'; rw [hz] at this; simpa using this
theorem stepL_ok {d d' : DbP} {l : List UInt8} (h : d.Ok) (hs : stepL d l = .ok d') : d'.Ok := by
  unfold stepL at hs
  split at hs
  · injection hs with hs; subst hs; exact h
  · cases hs
  · exact addL_ok h hs
theorem linesGo_ok : ∀ {L : List (List UInt8)} {d d' : DbP} {i : Nat}, d.Ok → linesGo d L i = .ok d' → d'.Ok
  | [], d, d', i, h, hs => by injection hs with hs; subst hs; exact h
  | l :: r, d, d', i, h, hs => by
    unfold linesGo at hs
    split at hs
    · cases hs
    · rename_i d2 h2
      exact linesGo_ok (stepL_ok h h2) hs
end Go.Proofs.YtinfnfgflcjfmaaGreatDoor

/-
  PLAIN: the classes of a database are apart; which class a rune has; all ranges in order. No walk.
-/
namespace Go.Proofs.YtinfnfgflcjfmaaGreatDoor

/-- No rune is in two of the sets. -/
def Apart (S : List (List (Int × Int))) : Prop := ∀ (i j : Nat) (a b : List (Int × Int)), S[i]? = some a → S[j]? = some b → i ≠ j → ∀ r, memR a r → memR b r → False
theorem apart_first : Apart DbP.first.sets := fun i j a b hi hj hij r ha _ => by
  have : i = 0 := by have := (List.getElem?_eq_some_iff.1 hi).1; simp [DbP.first] at this; exact this
  have : j = 0 := by have := (List.getElem?_eq_some_iff.1 hj).1; simp [DbP.first] at this; exact this
  omega
theorem clash_false {d : DbP} {c : Nat} {l : List (Int × Int)} (h : d.clash c l = false) (hd : ∀ s ∈ d.sets, NF s) (hl : Nf l) : ∀ (k : Nat) (s : List (Int × Int)), d.sets[k]? = some s → k ≠ c → ∀ r, memR s r → memR l r → False := by
  intro k s hk hkc r h1 h2
  unfold DbP.clash at h
  rw [List.any_eq_false] at h
  have hlt := (List.getElem?_eq_some_iff.1 hk).1
  have h3 := h k (List.mem_range.2 hlt)
  rw [List.getD_eq_getElem?_getD, hk, Option.getD_some] at h3
  have : meetB s l = true := (meetB_iff (hd s (List.mem_of_getElem? hk)).1 hl).2 ⟨r, h1, h2⟩
  rw [this] at h3
  simp [hkc] at h3
theorem memR_orR {a b : List (Int × Int)} (ha : NF a) (hb : NF b) (r : Int) : memR (orR a b) r ↔ memR a r ∨ memR b r := by
  rw [← NF_mem (orR_NF a b), hasP_orR, NF_mem ha, NF_mem hb]
theorem apart_set {S : List (List (Int × Int))} {c : Nat} {s l : List (Int × Int)} (h : Apart S) (hc : S[c]? = some s) (hs : NF s) (hl : NF l) (hcl : ∀ (k : Nat) (q : List (Int × Int)), S[k]? = some q → k ≠ c → ∀ r, memR q r → memR l r → False) : Apart (S.set c (orR s l)) := by
  intro i j a b hi hj hij r ha hb
  by_cases h1 : i = c
  · subst h1
    have hlt := (List.getElem?_eq_some_iff.1 hc).1
    rw [List.getElem?_set_self hlt] at hi
    rw [List.getElem?_set_ne (by omega)] at hj
    injection hi with hi; subst hi
    rcases (memR_orR hs hl r).1 ha with ha | ha
    · exact h i j s b hc hj hij r ha hb
    · exact hcl j b hj (by omega) r hb ha
  · rw [List.getElem?_set_ne (by omega)] at hi
    by_cases h2 : j = c
    · subst h2
      have hlt := (List.getElem?_eq_some_iff.1 hc).1
      rw [List.getElem?_set_self hlt] at hj
      injection hj with hj; subst hj
      rcases (memR_orR hs hl r).1 hb with hb | hb
      · exact h i j a s hi hc hij r ha hb
      · exact hcl i a hi (by omega) r ha hb
    · rw [List.getElem?_set_ne (by omega)] at hj
      exact h i j a b hi hj hij r ha hb
theorem memR_or_nil {l : List (Int × Int)} (hl : NF l) (r : Int) : memR (orR [] l) r ↔ memR l r := by
  rw [memR_orR (show NF [] from ⟨trivial, by simp⟩) hl]; simp [memR_nil]
theorem apart_snoc {S : List (List (Int × Int))} {l : List (Int × Int)} (h : Apart S) (hl : NF l) (hcl : ∀ (k : Nat) (q : List (Int × Int)), S[k]? = some q → ∀ r, memR q r → memR l r → False) : Apart (S ++ [orR [] l]) := by
  intro i j a b hi hj hij r ha hb
  have hlen := (List.getElem?_eq_some_iff.1 hi).1
  have hlen2 := (List.getElem?_eq_some_iff.1 hj).1
  simp only [List.length_append, List.length_singleton] at hlen hlen2
  by_cases h1 : i < S.length
  · rw [List.getElem?_append_left h1] at hi
    by_cases h2 : j < S.length
    · rw [List.getElem?_append_left h2] at hj
      exact h i j a b hi hj hij r ha hb
    · rw [List.getElem?_append_right (by omega), show j - S.length = 0 by omega] at hj
      simp at hj; subst hj
      exact hcl i a hi r ha ((memR_or_nil hl r).1 hb)
  · rw [List.getElem?_append_right (by omega), show i - S.length = 0 by omega] at hi
    simp at hi; subst hi
    rw [List.getElem?_append_left (by omega)] at hj
    exact hcl j b hj r hb ((memR_or_nil hl r).1 ha)
theorem addL_apart {d d' : DbP} {n s : List UInt8} (h : d.Ok) (ha : Apart d.sets) (hs : addL d n s = .ok d') : Apart d'.sets := by
  unfold addL at hs
  split at hs
  · cases hs
  · split at hs
    · cases hs
    · rename_i l _
      split at hs
      · rename_i c hc
        split at hs
        · cases hs
        · rename_i hcl
          injection hs with hs; subst hs
          have hlt : c < d.sets.length := by rw [h.len]; exact (List.getElem?_eq_some_iff.1 (idxOf?_some hc)).1
          have hsc : d.sets[c]? = some (d.sets.getD c []) := by rw [List.getD_eq_getElem?_getD, List.getElem?_eq_getElem hlt]; rfl
          exact apart_set ha hsc (h.nf _ (List.mem_of_getElem? hsc)) (normR_NF l) (clash_false (by simpa using hcl) h.nf (normR_nf l))
      · split at hs
        · cases hs
        · split at hs
          · cases hs
          · rename_i hcl
            injection hs with hs; subst hs
            refine apart_snoc ha (normR_NF l) fun k q hk r h1 h2 => ?_
            exact clash_false (by simpa using hcl) h.nf (normR_nf l) k q hk (by have := (List.getElem?_eq_some_iff.1 hk).1; rw [h.len] at this; omega) r h1 h2
theorem linesGo_apart : ∀ {L : List (List UInt8)} {d d' : DbP} {i : Nat}, d.Ok → Apart d.sets → linesGo d L i = .ok d' → Apart d'.sets
  | [], d, d', i, _, ha, hs => by injection hs with hs; subst hs; exact ha
  | l :: r, d, d', i, h, ha, hs => by
    unfold linesGo at hs
    split at hs
    · cases hs
    · rename_i d2 h2
      refine linesGo_apart (stepL_ok h h2) ?_ hs
      unfold stepL at h2
      split at h2
      · injection h2 with h2; subst h2; exact ha
      · cases h2
      · exact addL_apart h ha h2
theorem newP_ok {t : List UInt8} {d : DbP} (h : newP t = .ok d) : d.Ok ∧ Apart d.sets := by
  unfold newP at h
  split at h
  · cases h
  · exact ⟨linesGo_ok DbP.first_ok h, linesGo_apart DbP.first_ok apart_first h⟩

/-- The rune that is asked for. -/
def askR (r : Int) : Int := if r < 0 ∨ 1114111 < r then 65533 else r
/-- The class of a rune, among the sets from a number on. -/
def getGo (r : Int) : Nat → List (List (Int × Int)) → Nat
  | _, [] => 0
  | i, s :: t => if hasB s r then i else getGo r (i + 1) t
def DbP.get (d : DbP) (r : Int) : Nat := getGo (askR r) 1 d.sets.tail
theorem getGo_spec {r : Int} : ∀ {S : List (List (Int × Int))} {i : Nat}, 1 ≤ i → (getGo r i S = 0 ∧ ∀ s ∈ S, hasB s r = false) ∨ ∃ k s, S[k]? = some s ∧ hasB s r = true ∧ getGo r i S = i + k
  | [], i, _ => .inl ⟨rfl, by simp⟩
  | s :: t, i, hi => by
    unfold getGo
    cases hb : hasB s r with
    | true => exact .inr ⟨0, s, rfl, hb, by simp⟩
    | false =>
      simp only [Bool.false_eq_true, if_false]
      rcases getGo_spec (r := r) (S := t) (i := i + 1) (by omega) with ⟨h1, h2⟩ | ⟨k, q, h1, h2, h3⟩
      · exact .inl ⟨h1, fun z hz => (List.mem_cons.1 hz).elim (fun e => by rw [e]; exact hb) (h2 z)⟩
      · exact .inr ⟨k + 1, q, by simpa using h1, h2, by omega⟩
end Go.Proofs.YtinfnfgflcjfmaaGreatDoor

/-
  PLAIN: all ranges of a database in their order; the class of a rune found in them. No walk.
-/
namespace Go.Proofs.YtinfnfgflcjfmaaGreatDoor

/-- The ranges of all sets, each with its class, from a number on. -/
def entG : Nat → List (List (Int × Int)) → List (Int × Int × Nat)
  | _, [] => []
  | c, s :: t => s.map (fun x => (x.1, x.2, c)) ++ entG (c + 1) t
def DbP.ents (d : DbP) : List (Int × Int × Nat) := entG 1 d.sets.tail
def RiseC (l : List (Int × Int × Nat)) : Prop := l.Pairwise fun a b => a.1 ≤ b.1
/-- All ranges in order. -/
def DbP.rng (d : DbP) : List (Int × Int × Nat) := d.ents.mergeSort fun a b => decide (a.1 ≤ b.1)
theorem rng_rise (d : DbP) : RiseC d.rng := by
  have := List.pairwise_mergeSort (le := fun a b : Int × Int × Nat => decide (a.1 ≤ b.1)) (by simp; intros; omega) (by simp; intros; omega) d.ents
  exact this.imp (by simp)
theorem rng_perm (d : DbP) : d.rng.Perm d.ents := List.mergeSort_perm _ _
theorem entG_append : ∀ (S T : List (List (Int × Int))) (c : Nat), entG c (S ++ T) = entG c S ++ entG (c + S.length) T
  | [], T, c => by simp [entG]
  | s :: S, T, c => by
    rw [List.cons_append]
    show _ ++ entG (c + 1) (S ++ T) = (_ ++ entG (c + 1) S) ++ _
    rw [entG_append S T (c + 1), List.length_cons, List.append_assoc, show c + 1 + S.length = c + (S.length + 1) by omega]
theorem mem_entG : ∀ {S : List (List (Int × Int))} {c : Nat} {x : Int × Int × Nat}, x ∈ entG c S ↔ ∃ k s, S[k]? = some s ∧ (x.1, x.2.1) ∈ s ∧ x.2.2 = c + k
  | [], c, x => by simp [entG]
  | s :: S, c, x => by
    unfold entG
    rw [List.mem_append, mem_entG (S := S)]
    constructor
    · rintro (h | ⟨k, q, h1, h2, h3⟩)
      · obtain ⟨y, hy, rfl⟩ := List.mem_map.1 h
        exact ⟨0, s, rfl, hy, rfl⟩
      · exact ⟨k + 1, q, by simpa using h1, h2, by omega⟩
    · rintro ⟨k, q, h1, h2, h3⟩
      cases k with
      | zero =>
        simp at h1; subst h1
        exact .inl (List.mem_map.2 ⟨_, h2, by obtain ⟨a, b, e⟩ := x; simp at h3 ⊢; exact h3.symm⟩)
      | succ k => exact .inr ⟨k, q, by simpa using h1, h2, by omega⟩
/-- Two ranges with no rune in common. -/
def Off (x y : Int × Int × Nat) : Prop := x.2.1 < y.1 ∨ y.2.1 < x.1
theorem Nf_pair : ∀ {l : List (Int × Int)}, Nf l → l.Pairwise fun a b => a.2 < b.1
  | [], _ => .nil
  | x :: r, h => .cons (fun y hy => by have := h.2.1 y hy; omega) (Nf_pair h.2.2)
theorem apart_tail {s : List (Int × Int)} {S : List (List (Int × Int))} (h : Apart (s :: S)) : Apart S := fun i j a b hi hj hij => h (i + 1) (j + 1) a b (by simpa using hi) (by simpa using hj) (by omega)
theorem entG_off : ∀ {S : List (List (Int × Int))} {c : Nat}, Apart S → (∀ s ∈ S, Nf s) → (entG c S).Pairwise Off
  | [], _, _, _ => .nil
  | s :: S, c, ha, hn => by
    unfold entG
    rw [List.pairwise_append]
    refine ⟨?_, entG_off (apart_tail ha) (fun q hq => hn q (by simp [hq])), fun x hx y hy => ?_⟩
    · rw [List.pairwise_map]
      exact (Nf_pair (hn s (by simp))).imp (fun h => .inl h)
    · obtain ⟨z, hz, rfl⟩ := List.mem_map.1 hx
      obtain ⟨k, q, h1, h2, _⟩ := mem_entG.1 hy
      have hq : Nf q := hn q (by simp [List.mem_of_getElem? h1])
      have l1 := Nf_le (hn s (by simp)) z hz
      have l2 := Nf_le hq _ h2
      simp only at l2
      show z.2 < y.1 ∨ y.2.1 < z.1
      rcases Int.lt_or_le z.2 y.1 with h | h
      · exact .inl h
      · rcases Int.lt_or_le y.2.1 z.1 with h' | h'
        · exact .inr h'
        · exfalso
          have := ha 0 (k + 1) s q rfl (by simpa using h1) (by omega)
          rcases Int.le_total z.1 y.1 with h3 | h3
          · exact this y.1 ⟨z, hz, h3, h⟩ ⟨_, h2, Int.le_refl _, l2⟩
          · exact this z.1 ⟨z, hz, Int.le_refl _, l1⟩ ⟨_, h2, h3, h'⟩
theorem DbP.tail_apart {d : DbP} (h : Apart d.sets) : Apart d.sets.tail := by
  cases hs : d.sets with
  | nil => intro i j a b hi; simp at hi
  | cons s S => rw [hs] at h; exact apart_tail h
theorem DbP.Ok.tailNF {d : DbP} (h : d.Ok) : ∀ s ∈ d.sets.tail, NF s := fun s hs => h.nf s (List.mem_of_mem_tail hs)
theorem ents_off {d : DbP} (h : d.Ok) (ha : Apart d.sets) : d.ents.Pairwise Off := entG_off (DbP.tail_apart ha) fun s hs => (h.tailNF s hs).1
theorem ents_bd {d : DbP} (h : d.Ok) : ∀ x ∈ d.ents, 0 ≤ x.1 ∧ x.1 ≤ x.2.1 ∧ x.2.1 ≤ 1114111 ∧ 1 ≤ x.2.2 ∧ x.2.2 < d.sets.length := fun x hx => by
  obtain ⟨k, s, h1, h2, h3⟩ := mem_entG.1 hx
  have hs := h.tailNF s (List.mem_of_getElem? h1)
  have := hs.2 _ h2; have := Nf_le hs.1 _ h2
  have hk := (List.getElem?_eq_some_iff.1 h1).1
  rw [List.length_tail] at hk
  simp only at *
  omega
theorem off_symm {x y : Int × Int × Nat} (h : Off x y) : Off y x := h.symm
/-- A rising list of just these is the one. -/
theorem rng_unique {d : DbP} (h : d.Ok) (ha : Apart d.sets) {l : List (Int × Int × Nat)} (hp : l.Perm d.ents) (hr : RiseC l) : l = d.rng := by
  refine List.Perm.eq_of_pairwise (le := fun a b : Int × Int × Nat => a.1 ≤ b.1) (fun a b hal hbl h1 h2 => ?_) hr (rng_rise d) (hp.trans (rng_perm d).symm)
  have ha' := hp.mem_iff.1 hal
  have hb' := (rng_perm d).mem_iff.1 hbl
  have ba := ents_bd h a ha'; have bb := ents_bd h b hb'
  obtain ⟨i, hi, rfl⟩ := List.getElem_of_mem ha'
  obtain ⟨j, hj, rfl⟩ := List.getElem_of_mem hb'
  have hP := List.pairwise_iff_getElem.1 (ents_off h ha)
  rcases Nat.lt_trichotomy i j with hij | hij | hij
  · have := hP i j hi hj hij
    unfold Off at this; omega
  · subst hij; rfl
  · have := hP j i hj hi hij
    unfold Off at this; omega
theorem rng_bd {d : DbP} (h : d.Ok) : ∀ x ∈ d.rng, 0 ≤ x.1 ∧ x.1 ≤ x.2.1 ∧ x.2.1 ≤ 1114111 ∧ 1 ≤ x.2.2 ∧ x.2.2 < d.sets.length := fun x hx => ents_bd h x ((rng_perm d).mem_iff.1 hx)
/-- In order, each range ends ahead of the next. -/
theorem rng_next {d : DbP} (h : d.Ok) (ha : Apart d.sets) : d.rng.Pairwise fun a b => a.2.1 < b.1 := by
  have h1 : d.rng.Pairwise Off := (List.Perm.pairwise_iff off_symm (rng_perm d)).2 (ents_off h ha)
  have h2 := (rng_rise d).and h1
  exact h2.imp_of_mem fun {a b} hA hB hab => by
    have := rng_bd h a hA; have := rng_bd h b hB
    obtain ⟨h3, h4⟩ := hab
    unfold Off at h4; omega

/-- How many end ahead of a rune. -/
def endB (r : Int) (x : Int × Int × Nat) : Bool := decide (x.2.1 < r)
def findC (l : List (Int × Int × Nat)) (r : Int) : Nat :=
  match l[l.countP (endB r)]? with
  | some x => if x.1 ≤ r then x.2.2 else 0
  | none => 0
theorem findC_hit {r : Int} {x : Int × Int × Nat} : ∀ {l : List (Int × Int × Nat)}, (l.Pairwise fun a b => a.2.1 < b.1) → (∀ y ∈ l, y.1 ≤ y.2.1) → x ∈ l → x.1 ≤ r → r ≤ x.2.1 → l[l.countP (endB r)]? = some x
  | [], _, _, hx, _, _ => by simp at hx
  | a :: l, hp, hl, hx, h1, h2 => by
    rw [List.pairwise_cons] at hp
    rcases List.mem_cons.1 hx with rfl | hx
    · have : (x :: l).countP (endB r) = 0 := by
        rw [List.countP_eq_zero]
        intro y hy
        rcases List.mem_cons.1 hy with rfl | hy
        · simp [endB]; omega
        · have := hp.1 y hy; have := hl y (by simp [hy]); simp [endB]; omega
      rw [this]; rfl
    · have hax := hp.1 x hx
      rw [List.countP_cons_of_pos (by simp [endB]; omega), List.getElem?_cons_succ]
      exact findC_hit hp.2 (fun y hy => hl y (by simp [hy])) hx h1 h2
theorem findC_at {r : Int} {x : Int × Int × Nat} : ∀ {l : List (Int × Int × Nat)}, (l.Pairwise fun a b => a.2.1 < b.1) → (∀ y ∈ l, y.1 ≤ y.2.1) → l[l.countP (endB r)]? = some x → r ≤ x.2.1
  | [], _, _, hx => by simp at hx
  | a :: l, hp, hl, hx => by
    rw [List.pairwise_cons] at hp
    by_cases h : a.2.1 < r
    · rw [List.countP_cons_of_pos (by simp [endB]; omega), List.getElem?_cons_succ] at hx
      exact findC_at hp.2 (fun y hy => hl y (by simp [hy])) hx
    · have : (a :: l).countP (endB r) = 0 := by
        rw [List.countP_eq_zero]
        intro y hy
        rcases List.mem_cons.1 hy with rfl | hy
        · simp [endB]; omega
        · have := hp.1 y hy; have := hl y (by simp [hy]); simp [endB]; omega
      rw [this] at hx
      simp at hx; subst hx; omega
theorem askR_bd (r : Int) : 0 ≤ askR r ∧ askR r ≤ 1114111 := by unfold askR; split <;> omega
theorem hasB_NF {s : List (Int × Int)} (h : NF s) (r : Int) : hasB s r = true ↔ ∃ x ∈ s, x.1 ≤ r ∧ r ≤ x.2 := by rw [hasB_iff, NF_mem h]; rfl
/-- The class found among the ranges in order is the class of the rune. -/
theorem find_get {d : DbP} (h : d.Ok) (ha : Apart d.sets) (r : Int) : findC d.rng (askR r) = d.get r := by
  have hn := rng_next h ha
  have hle : ∀ y ∈ d.rng, y.1 ≤ y.2.1 := fun y hy => (rng_bd h y hy).2.1
  unfold DbP.get
  rcases getGo_spec (r := askR r) (S := d.sets.tail) (i := 1) (by omega) with ⟨h1, h2⟩ | ⟨k, s, h1, h2, h3⟩
  · rw [h1]
    unfold findC
    cases hx : d.rng[d.rng.countP (endB (askR r))]? with
    | none => rfl
    | some x =>
      have hr := findC_at hn hle hx
      simp only
      split
      · rename_i hlo
        exfalso
        obtain ⟨k, s, h3, h4, _⟩ := mem_entG.1 ((rng_perm d).mem_iff.1 (List.mem_of_getElem? hx))
        have hs := h.tailNF s (List.mem_of_getElem? h3)
        have := h2 s (List.mem_of_getElem? h3)
        rw [(hasB_NF hs _).2 ⟨_, h4, hlo, hr⟩] at this; cases this
      · rfl
  · rw [h3]
    have hs := h.tailNF s (List.mem_of_getElem? h1)
    obtain ⟨y, hy, hy1, hy2⟩ := (hasB_NF hs _).1 h2
    have hm : (y.1, y.2, 1 + k) ∈ d.rng := (rng_perm d).mem_iff.2 (mem_entG.2 ⟨k, s, h1, hy, rfl⟩)
    unfold findC
    rw [findC_hit hn hle hm hy1 hy2]
    simp only [hy1, if_true]
/-- What the search leaves: its place. -/
theorem count_place {r : Int} {l : List (Int × Int × Nat)} {i : Nat} (hi : i ≤ l.length) (h1 : ∀ t x, t < i → l[t]? = some x → x.2.1 < r) (h2 : ∀ t x, i ≤ t → l[t]? = some x → ¬ x.2.1 < r) : l.countP (endB r) = i := by
  have e : l = l.take i ++ l.drop i := (List.take_append_drop i l).symm
  rw [e, List.countP_append]
  have a1 : (l.take i).countP (endB r) = i := by
    rw [List.countP_eq_length.2, List.length_take, Nat.min_eq_left hi]
    intro x hx
    obtain ⟨t, ht, rfl⟩ := List.getElem_of_mem hx
    rw [List.length_take] at ht
    have := h1 t _ (by omega) (List.getElem?_eq_getElem (by omega))
    rw [List.getElem_take]; simpa [endB] using this
  have a2 : (l.drop i).countP (endB r) = 0 := by
    rw [List.countP_eq_zero]
    intro x hx
    obtain ⟨t, ht, rfl⟩ := List.getElem_of_mem hx
    rw [List.length_drop] at ht
    have := h2 (i + t) _ (by omega) (List.getElem?_eq_getElem (by omega))
    rw [List.getElem_drop]; simpa [endB] using this
  rw [a1, a2]; rfl

/-- A list in order into which one more is put, behind all that begin no later. -/
theorem rise_put {l : List (Int × Int × Nat)} {x : Int × Int × Nat} {k : Nat} (h : RiseC l) (h1 : ∀ y, k ≠ 0 → l[k - 1]? = some y → y.1 ≤ x.1) (h2 : ∀ y ∈ l.drop k, x.1 < y.1) (hk : k ≤ l.length) : RiseC (l.take k ++ x :: l.drop k) := by
  unfold RiseC
  have hs : (l.take k ++ l.drop k).Pairwise fun a b => a.1 ≤ b.1 := by rw [List.take_append_drop]; exact h
  rw [List.pairwise_append] at hs ⊢
  refine ⟨hs.1, .cons (fun y hy => by have := h2 y hy; omega) hs.2.1, fun a haa b hb => ?_⟩
  rcases List.mem_cons.1 hb with rfl | hb
  · obtain ⟨t, ht, rfl⟩ := List.getElem_of_mem haa
    rw [List.length_take] at ht
    rw [List.getElem_take]
    have hk0 : k ≠ 0 := by omega
    have hl := h1 _ hk0 (List.getElem?_eq_getElem (by omega))
    have := List.pairwise_iff_getElem.1 h
    rcases Nat.lt_or_ge t (k - 1) with hlt | hge
    · have := this t (k - 1) (by omega) (by omega) hlt; omega
    · obtain rfl : t = k - 1 := by omega
      exact hl
  · exact hs.2.2 a haa b hb
theorem perm_put {l : List (Int × Int × Nat)} {x : Int × Int × Nat} {k : Nat} : (l.take k ++ x :: l.drop k).Perm (l ++ [x]) := by
  have h1 : (l.take k ++ x :: l.drop k).Perm (x :: (l.take k ++ l.drop k)) := List.perm_middle
  rw [List.take_append_drop] at h1
  exact h1.trans (List.perm_append_comm (l₁ := [x]) (l₂ := l))
end Go.Proofs.YtinfnfgflcjfmaaGreatDoor

/-
  PLAIN: the spelling of a set; read again it is the set. No walk.
-/
namespace Go.Proofs.YtinfnfgflcjfmaaGreatDoor

def hexD (d : Nat) : UInt8 := if d < 10 then UInt8.ofNat (48 + d) else UInt8.ofNat (55 + d)
/-- The last k hexadecimal digits of a number. -/
def hexW : Nat → Nat → List UInt8
  | 0, _ => []
  | k + 1, n => hexW k (n / 16) ++ [hexD (n % 16)]
def hexK (n : Nat) : Nat := if n < 65536 then 4 else if n < 1048576 then 5 else 6
def hexS (n : Nat) : List UInt8 := hexW (hexK n) n
theorem hexW_len : ∀ (k n : Nat), (hexW k n).length = k
  | 0, _ => rfl
  | k + 1, n => by rw [hexW, List.length_append, hexW_len k]; rfl
theorem hexK_bd (n : Nat) : 4 ≤ hexK n ∧ hexK n ≤ 6 := by unfold hexK; split <;> (try split) <;> omega
theorem hexS_len (n : Nat) : (hexS n).length = hexK n := hexW_len _ _
theorem hexD_nat {d : Nat} (h : d < 16) : ((hexD d).toNat : Int) = if d < 10 then 48 + (d : Int) else 55 + (d : Int) := by
  unfold hexD
  split
  · rw [UInt8.toNat_ofNat']; omega
  · rw [UInt8.toNat_ofNat']; omega
theorem hexD_hex {d : Nat} (h : d < 16) : isHexN ((hexD d).toNat : Int) = true := by
  rw [hexD_nat h]; refine (isHexN_t ?_).symm; split <;> omega
theorem hexD_dig {d : Nat} (h : d < 16) : hexDig ((hexD d).toNat : Int) = d := by
  rw [hexD_nat h]; unfold hexDig; split <;> (rename_i h1; split <;> omega)
theorem hexW_all : ∀ (k n : Nat), allHex (hexW k n)
  | 0, _ => fun c h => by simp [hexW] at h
  | k + 1, n => fun c h => by
    rw [hexW] at h
    rcases List.mem_append.1 h with h | h
    · exact hexW_all k _ c h
    · simp at h; subst h; exact hexD_hex (Nat.mod_lt _ (by decide))
theorem hexW_val : ∀ (k n : Nat), n < 16 ^ k → hexVal (hexW k n) = n
  | 0, n, h => by simp [hexW, hexVal]; omega
  | k + 1, n, h => by
    rw [hexW, hexVal_snoc, hexW_val k (n / 16) (by rw [Nat.pow_succ] at h; omega), hexD_dig (Nat.mod_lt _ (by decide))]
    omega
theorem hexS_val {n : Nat} (h : n ≤ 1114111) : hexVal (hexS n) = n := by
  refine hexW_val _ _ ?_
  unfold hexK
  split
  · simpa using ‹_›
  · split
    · simpa using ‹_›
    · show n < 16777216; omega
theorem hexS_bytes (n : Nat) : ∀ c ∈ hexS n, c ≠ 32 ∧ c ≠ 45 := fun c hc => by
  have := of_decide_eq_true (show isHexN (c.toNat : Int) = true from hexW_all _ _ c hc)
  constructor <;> (rintro rfl; simp at this)

/-- A rune's spelling; a range's; a set's. -/
def spellP (r : Int) : List UInt8 := [85, 43] ++ hexS r.toNat
def itemT (x : Int × Int) : List UInt8 := spellP x.1 ++ (if x.2 = x.1 then [] else 45 :: spellP x.2)
def printL : List (Int × Int) → List UInt8
  | [] => []
  | [x] => itemT x
  | x :: y :: r => itemT x ++ 32 :: printL (y :: r)
def printP (l : List (Int × Int)) : List UInt8 := printL (normR l)
theorem spellP_len (r : Int) : (spellP r).length ≤ 8 := by unfold spellP; rw [List.length_append, hexS_len]; have := hexK_bd r.toNat; simp; omega
theorem itemT_len (x : Int × Int) : (itemT x).length ≤ 17 := by
  unfold itemT; rw [List.length_append]
  have := spellP_len x.1; have := spellP_len x.2
  split
  · simp; omega
  · simp; omega
theorem printL_len : ∀ (l : List (Int × Int)), (printL l).length ≤ 18 * l.length
  | [] => by simp [printL]
  | [x] => by have := itemT_len x; simp [printL]; omega
  | x :: y :: r => by
    have h1 := itemT_len x; have h2 := printL_len (y :: r)
    rw [printL, List.length_append, List.length_cons]
    simp only [List.length_cons] at h2 ⊢; omega
/-- Behind what stands ahead. -/
theorem printL_snoc : ∀ (l : List (Int × Int)) (x : Int × Int), printL (l ++ [x]) = printL l ++ (if l = [] then [] else [32]) ++ itemT x
  | [], x => by simp [printL]
  | [y], x => by simp [printL]
  | y :: z :: r, x => by
    have ih := printL_snoc (z :: r) x
    simp only [List.cons_append, printL] at ih ⊢
    rw [ih]; simp

/- Read again. -/
theorem hexRun_of {s : ByteArray} {a : Nat} {d r : List UInt8} (h : rest s a = d ++ r) (hd : allHex d) (hr : ∀ c, r.head? = some c → isHexN (c.toNat : Int) = false) : hexRun s a = d := by
  unfold hexRun; rw [h]
  clear h
  induction d with
  | nil =>
    rw [List.nil_append]
    cases r with
    | nil => rfl
    | cons c r => rw [List.takeWhile_cons, if_neg (by rw [hr c rfl]; decide)]
  | cons c d ih =>
    rw [List.cons_append, List.takeWhile_cons, if_pos (hd c (by simp)), ih (fun e he => hd e (by simp [he]))]
theorem rest_add {s : ByteArray} {a : Nat} {d r : List UInt8} (h : rest s a = d ++ r) : rest s (a + d.length) = r := by
  unfold rest at h ⊢
  rw [← List.drop_drop, h, List.drop_left]
theorem runeP_spell {s : ByteArray} {a : Nat} {x : Int} {r : List UInt8} (h : rest s a = spellP x ++ r) (hx : 0 ≤ x ∧ x ≤ 1114111) (hr : ∀ c, r.head? = some c → isHexN (c.toNat : Int) = false) :
    runeP s a = .ok (x, a + (spellP x).length) := by
  have h2 : rest s (a + 2) = hexS x.toNat ++ r := by
    have := rest_add (d := [85, 43]) (r := hexS x.toNat ++ r) (by rw [h, spellP, List.append_assoc])
    exact this
  have hh := hexRun_of h2 (hexW_all _ _) hr
  have hl := hexS_len x.toNat
  have hk := hexK_bd x.toNat
  have hv := hexS_val (n := x.toNat) (by omega)
  unfold runeP
  rw [if_pos (by rw [h]; simp [spellP]), numP, hh, if_neg (by omega), if_neg (by rw [hv]; omega), hv]
  congr 2
  · omega
  · rw [spellP, List.length_append]; simp only [List.length_cons, List.length_nil]; omega
theorem itemP_item {s : ByteArray} {a : Nat} {x : Int × Int} {r : List UInt8} (h : rest s a = itemT x ++ r) (h0 : 0 ≤ x.1) (h1 : x.1 ≤ x.2) (h2 : x.2 ≤ 1114111) (hr : ∀ c, r.head? = some c → c = 32) :
    itemP s a = .ok (x, a + (itemT x).length) := by
  have hr2 : ∀ c, r.head? = some c → isHexN (c.toNat : Int) = false := fun c hc => by rw [hr c hc]; rfl
  have hrs : ¬ (r.head? ≠ none ∧ r.head? ≠ some 32) := by
    rintro ⟨k1, k2⟩
    cases hc : r.head? with
    | none => exact k1 hc
    | some c => rw [hc, hr c hc] at k2; exact k2 rfl
  unfold itemT at h ⊢
  by_cases he : x.2 = x.1
  · rw [if_pos he, List.append_nil] at h ⊢
    have k1 := runeP_spell h ⟨h0, by omega⟩ hr2
    have k2 := rest_add h
    unfold itemP
    rw [k1]; simp only
    rw [k2, if_neg (fun e => by have := hr _ e; simp at this)]
    simp only
    rw [k2, if_neg (by omega), if_neg hrs]
    congr 2
    exact Prod.ext rfl he.symm
  · rw [if_neg he] at h ⊢
    rw [List.append_assoc, List.cons_append] at h
    have k1 := runeP_spell h ⟨h0, by omega⟩ (fun c hc => by simp at hc; subst hc; rfl)
    have k2 := rest_add h
    have k3 : rest s (a + (spellP x.1).length + 1) = spellP x.2 ++ r := rest_add (d := [45]) (by rw [k2]; rfl)
    have k4 := runeP_spell k3 ⟨by omega, h2⟩ hr2
    have k5 := rest_add k3
    unfold itemP
    rw [k1]; simp only
    rw [k2, if_pos (by rfl), k4]
    simp only
    rw [k5, if_neg (by omega), if_neg hrs]
    congr 2
    rw [List.length_append, List.length_cons]; omega
theorem itemT_head (x : Int × Int) (r : List UInt8) : (itemT x ++ r).head? = some 85 := by unfold itemT spellP; rfl
theorem parse_print {s : ByteArray} : ∀ (L : List (Int × Int)) (f a : Nat) (acc : List (Int × Int)), (∀ x ∈ L, 0 ≤ x.1 ∧ x.1 ≤ x.2 ∧ x.2 ≤ 1114111) → rest s a = printL L → 2 * L.length < f + 1 → parseGo s f a acc = .ok (acc ++ L)
  | [], f, a, acc, _, h, hf => by
    cases f with
    | zero => simp [parseGo]
    | succ f => unfold parseGo; rw [h]; simp [printL]
  | x :: L, f, a, acc, hb, h, hf => by
    obtain ⟨f, rfl⟩ : ∃ g, f = g + 1 := ⟨f - 1, by simp at hf; omega⟩
    have hx := hb x (by simp)
    cases L with
    | nil =>
      have h' : rest s a = itemT x ++ [] := by rw [h]; simp [printL]
      have k := itemP_item h' hx.1 hx.2.1 hx.2.2 (by simp)
      have kr := rest_add h'
      unfold parseGo
      rw [h', itemT_head]; simp only
      rw [if_neg (by decide), k]
      simp only
      have := parse_print [] f (a + (itemT x).length) (acc ++ [x]) (by simp) (by rw [kr]; rfl) (by simp at hf ⊢)
      rw [this]; simp
    | cons y L =>
      have h' : rest s a = itemT x ++ 32 :: printL (y :: L) := by rw [h]; rfl
      have k := itemP_item h' hx.1 hx.2.1 hx.2.2 (by simp)
      have kr := rest_add h'
      unfold parseGo
      rw [h', itemT_head]; simp only
      rw [if_neg (by decide), k]
      simp only
      obtain ⟨f, rfl⟩ : ∃ g, f = g + 1 := ⟨f - 1, by simp at hf; omega⟩
      unfold parseGo
      rw [kr]; simp only [List.head?_cons, if_true]
      have := parse_print (y :: L) f (a + (itemT x).length + 1) (acc ++ [x]) (fun z hz => hb z (by simp [hz])) (rest_add (d := [32]) (by rw [kr]; rfl)) (by simp only [List.length_cons] at hf ⊢; omega)
      rw [this]; simp
theorem printL_ge : ∀ (l : List (Int × Int)), 2 * l.length ≤ (printL l).length
  | [] => by simp
  | [x] => by unfold printL itemT spellP; simp
  | x :: y :: r => by
    have ih := printL_ge (y :: r)
    rw [printL, List.length_append, List.length_cons]
    unfold itemT spellP
    simp only [List.length_append, List.length_cons] at ih ⊢; omega
/-- What is printed is read as the same set. -/
theorem parse_printP (l : List (Int × Int)) : parseP ⟨(printP l).toArray⟩ = .ok (normR l) := by
  have hz : (⟨(printP l).toArray⟩ : ByteArray).size = (printP l).length := by rw [← size_data]
  unfold parseP
  rw [hz]
  have := printL_ge (normR l)
  refine parse_print (normR l) _ 0 [] (fun x hx => ?_) ?_ (by unfold printP; omega)
  · have h1 := (normR_NF l).2 x hx
    have h2 := Nf_le (normR_nf l) x hx
    omega
  · unfold rest printP; simp
end Go.Proofs.YtinfnfgflcjfmaaGreatDoor

