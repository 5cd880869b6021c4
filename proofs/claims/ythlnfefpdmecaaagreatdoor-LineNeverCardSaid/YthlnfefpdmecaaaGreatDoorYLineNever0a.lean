/-
  Several texts in one, in their build order: UtfP, WorP, Ka, Kb, WorQ, UtfJ, WorR, Li, LinP, Ta, Tb, Tn, Tg, PropsL, DbK, Dw, We, Last, Ke, LinQ, GraP, GraQ, LinR, Dl.
-/
import Derived.Lib.DecodeN
import Derived.Lib.RuneCountTail
import Derived.Deep.DeepMust
import Derived.Deep.RegionHeld3
import Derived.Deep.CutRange
import Derived.KernelRfl
import Derived.Test.YthlnfefpdmecaaaGreatDoorZ1b
import Derived.Test.YthlnfefpdmecaaaGreatDoorZ0a
import Derived.Test.YthlnfefpdmecaaaGreatDoorZ1a
import Derived.Test.YthlnfefpdmecaaaGreatDoorZWc
import Derived.Test.YthlnfefpdmecaaaGreatDoorZRefU
import Derived.Test.YthlnfefpdmecaaaGreatDoorZ4a
/-
  PLAIN: a text's runes lie one behind the other; a text's beginning has the runes that it had. No walk.
-/
namespace Go.Proofs.YthlnfefpdmecaaaGreatDoor

/-- Runes that lie one behind the other, from p to z. -/
def Contig : Nat → List (Nat × Nat × Nat) → Nat → Prop
  | p, [], z => p = z
  | p, x :: r, z => x.2.1 = p ∧ p < x.2.2 ∧ Contig x.2.2 r z
theorem runesGo_contig {s : ByteArray} : ∀ (f a : Nat), s.size ≤ a + f → a ≤ s.size → Contig a (runesGo s f a) s.size
  | 0, a, h, h2 => by simp only [runesGo, Contig]; omega
  | f + 1, a, h, h2 => by
    rw [runesGo]
    split
    · rename_i hlt
      have hd := dec_bd s a hlt
      exact ⟨rfl, by simp only; omega, runesGo_contig f _ (by simp only; omega) (by simp only; omega)⟩
    · show a = s.size; omega
theorem runesP_contig (s : ByteArray) : Contig 0 (runesP s) s.size := runesGo_contig _ _ (by omega) (by omega)
theorem runesGo_dec {s : ByteArray} : ∀ (f a : Nat), ∀ x ∈ runesGo s f a, Utf8.decode s x.2.1 = (x.1, x.2.2 - x.2.1)
  | 0, a, x, h => by simp [runesGo] at h
  | f + 1, a, x, h => by
    rw [runesGo] at h
    split at h
    · rcases List.mem_cons.1 h with rfl | h
      · simp only; rw [Nat.add_sub_cancel_left]
      · exact runesGo_dec f _ x h
    · simp at h

/- Lengths. -/
theorem extract_len (s : ByteArray) {a b : Nat} (h : b ≤ s.size) : (s.extract a b).data.toList.length = b - a := by
  rw [size_data, ByteArray.size_extract]; omega
theorem decN_same {n m b0 b1 b2 b3 c1 c2 c3 R W : Nat} (h : Lib.decodeN n b0 b1 b2 b3 = (R, W)) (hv : R ≠ 65533 ∨ W = 3) (hm : W ≤ m) (h1 : 2 ≤ W → c1 = b1) (h2 : 3 ≤ W → c2 = b2) (h3 : 4 ≤ W → c3 = b3) :
    Lib.decodeN m b0 c1 c2 c3 = (R, W) := by
  unfold Lib.decodeN at h
  split at h
  · rename_i g0
    injection h with hR hW
    subst hR; subst hW
    unfold Lib.decodeN; rw [if_pos g0]
  · rename_i g0
    split at h
    · rename_i g1
      split at h
      · rename_i g2
        injection h with hR hW
        subst hR; subst hW
        obtain rfl := h1 (by omega)
        unfold Lib.decodeN; rw [if_neg g0, if_pos ⟨g1.1, by omega, g1.2.2⟩, if_pos g2]
      · injection h with hR hW
        subst hR; subst hW
        rcases hv with hv | hv <;> omega
    · rename_i g1
      split at h
      · rename_i g2
        split at h
        · rename_i g3
          injection h with hR hW
          subst hR; subst hW
          obtain rfl := h1 (by omega)
          obtain rfl := h2 (by omega)
          unfold Lib.decodeN; rw [if_neg g0, if_neg (by omega), if_pos ⟨g2.1, ⟨by omega, g2.2.1.2⟩, by omega, g2.2.2.2⟩, if_pos g3]
        · injection h with hR hW
          subst hR; subst hW
          rcases hv with hv | hv <;> omega
      · rename_i g2
        split at h
        · rename_i g3
          split at h
          · rename_i g4
            injection h with hR hW
            subst hR; subst hW
            obtain rfl := h1 (by omega)
            obtain rfl := h2 (by omega)
            obtain rfl := h3 (by omega)
            unfold Lib.decodeN; rw [if_neg g0, if_neg (by omega), if_neg (by omega), if_pos ⟨g3.1, ⟨by omega, g3.2.1.2⟩, ⟨by omega, g3.2.2.1.2⟩, by omega, g3.2.2.2.2⟩, if_pos g4]
          · injection h with hR hW
            subst hR; subst hW
            rcases hv with hv | hv <;> omega
        · injection h with hR hW
          subst hR; subst hW
          rcases hv with hv | hv <;> omega
theorem dec_same {s t : ByteArray} {i j R W : Nat} (h : Utf8.decode s i = (R, W)) (h1 : 1 ≤ W) (hv : R ≠ 65533 ∨ W = 3) (ht : j + W ≤ t.size) (hg : ∀ k, k < W → t.get! (j + k) = s.get! (i + k)) : Utf8.decode t j = (R, W) := by
  rw [Lib.decode_at] at h ⊢
  have h0 := hg 0 (by omega)
  rw [Nat.add_zero, Nat.add_zero] at h0
  rw [h0]
  exact decN_same h hv (by omega) (fun h => by rw [hg 1 (by omega)]) (fun h => by rw [hg 2 (by omega)]) (fun h => by rw [hg 3 (by omega)])

/- A text's beginning. -/
theorem decN_bad {n b0 b1 b2 b3 R W : Nat} (h : Lib.decodeN n b0 b1 b2 b3 = (R, W)) (hv : ¬ (R ≠ 65533 ∨ W = 3)) : R = 65533 ∧ W = 1 := by
  have hR : R = 65533 := Classical.byContradiction fun k => hv (.inl k)
  have hW : W ≠ 3 := fun k => hv (.inr k)
  refine ⟨hR, ?_⟩
  unfold Lib.decodeN at h
  repeat' split at h
  all_goals (injection h with h1 h2; omega)
theorem decN_prefix {n m b0 b1 b2 b3 c1 c2 c3 R W : Nat} (h : Lib.decodeN n b0 b1 b2 b3 = (R, W)) (hmn : m ≤ n) (hm : W ≤ m) (h1 : 2 ≤ m → c1 = b1) (h2 : 3 ≤ m → c2 = b2) (h3 : 4 ≤ m → c3 = b3) (hb : ∀ R' W', Lib.decodeN m b0 c1 c2 c3 = (R', W') → W' ≤ m) :
    Lib.decodeN m b0 c1 c2 c3 = (R, W) := by
  by_cases hv : R ≠ 65533 ∨ W = 3
  · exact decN_same h hv hm (fun k => h1 (by omega)) (fun k => h2 (by omega)) (fun k => h3 (by omega))
  · obtain ⟨⟨R', W'⟩, hD⟩ : ∃ d, Lib.decodeN m b0 c1 c2 c3 = d := ⟨_, rfl⟩
    have hw := hb R' W' hD
    by_cases hv' : R' ≠ 65533 ∨ W' = 3
    · have := decN_same (m := n) (c1 := b1) (c2 := b2) (c3 := b3) hD hv' (by omega) (fun k => (h1 (by omega)).symm) (fun k => (h2 (by omega)).symm) (fun k => (h3 (by omega)).symm)
      rw [hD, ← h, this]
    · obtain ⟨rfl, rfl⟩ := decN_bad h hv
      obtain ⟨rfl, rfl⟩ := decN_bad hD hv'
      exact hD
theorem get_prefix (s : ByteArray) {z k : Nat} (hk : k < z) : (s.extract 0 z).get! k = s.get! k := by
  rw [← Lib.getD_get!', ← Lib.getD_get!', ByteArray.data_extract, Array.toList_extract, List.extract_eq_take_drop, List.getD_eq_getElem?_getD, List.getD_eq_getElem?_getD, List.drop_zero, Nat.sub_zero, List.getElem?_take_of_lt hk]
theorem dec_prefix (s : ByteArray) {z i R W : Nat} (hz : z ≤ s.size) (h : Utf8.decode s i = (R, W)) (hi : i < z) (hw : i + W ≤ z) : Utf8.decode (s.extract 0 z) i = (R, W) := by
  have hsz : (s.extract 0 z).size = z := by rw [ByteArray.size_extract]; omega
  have hb := dec_bd (s.extract 0 z) i (by omega)
  rw [Lib.decode_at] at h hb ⊢
  rw [hsz] at hb ⊢
  have h0 := get_prefix s (k := i) hi
  rw [h0] at hb ⊢
  refine decN_prefix h (by omega) (by omega) (fun k => by rw [get_prefix s (by omega)]) (fun k => by rw [get_prefix s (by omega)]) (fun k => by rw [get_prefix s (by omega)]) fun R' W' hD => ?_
  rw [hD] at hb
  simp only at hb; omega
/-- Runes up to a place where one begins. -/
theorem runesGo_prefix (s : ByteArray) {z : Nat} (hz : z ≤ s.size) : ∀ (f g a : Nat), s.size ≤ a + f → z ≤ a + g → a ≤ z → (a = z ∨ z = s.size ∨ ∃ x ∈ runesGo s f a, x.2.1 = z) → runesGo (s.extract 0 z) g a = (runesGo s f a).takeWhile fun x => decide (x.2.1 < z)
  | 0, g, a, hf, hg, ha, _ => by
    have hsz : (s.extract 0 z).size = z := by rw [ByteArray.size_extract]; omega
    rw [runesGo_end (by omega)]; rfl
  | f + 1, g, a, hf, hg, ha, hx => by
    have hsz : (s.extract 0 z).size = z := by rw [ByteArray.size_extract]; omega
    by_cases haz : a = z
    · subst haz
      rw [runesGo_end (by omega)]
      rw [runesGo]
      split
      · rw [List.takeWhile_cons, if_neg (by simp)]
      · rfl
    · have hlt : a < s.size := by omega
      have hd := dec_bd s a hlt
      obtain ⟨⟨R, W⟩, hD⟩ : ∃ d, Utf8.decode s a = d := ⟨_, rfl⟩
      rw [hD] at hd
      simp only at hd
      have hr : runesGo s (f + 1) a = (R, a, a + W) :: runesGo s f (a + W) := by rw [runesGo, if_pos hlt, hD]
      have hle : a + W ≤ z ∧ (a + W = z ∨ z = s.size ∨ ∃ x ∈ runesGo s f (a + W), x.2.1 = z) := by
        rcases hx with h | h | ⟨x, hm, h⟩
        · omega
        · exact ⟨by omega, .inr (.inl h)⟩
        · rw [hr] at hm
          rcases List.mem_cons.1 hm with rfl | hm
          · simp only at h; omega
          · have := runesGo_bd _ _ x hm
            exact ⟨by omega, .inr (.inr ⟨x, hm, h⟩)⟩
      obtain ⟨k, rfl, hk⟩ := runesGo_step (s := s.extract 0 z) (f := g) (a := a) (by omega) (by omega)
      rw [hk, hr, dec_prefix s hz hD (by omega) hle.1, List.takeWhile_cons, if_pos (by simp; omega)]
      simp only
      rw [runesGo_prefix s hz f k (a + W) (by omega) (by omega) hle.1 hle.2]
theorem runesP_prefix (s : ByteArray) {z : Nat} (hz : z ≤ s.size) (h : z = 0 ∨ z = s.size ∨ ∃ x ∈ runesP s, x.2.1 = z) : runesP (s.extract 0 z) = (runesP s).takeWhile fun x => decide (x.2.1 < z) := by
  have hsz : (s.extract 0 z).size = z := by rw [ByteArray.size_extract]; omega
  unfold runesP
  rw [hsz]
  exact runesGo_prefix s hz s.size z 0 (by omega) (by omega) (by omega) (by rcases h with h | h; exact .inl h.symm; exact .inr h)
end Go.Proofs.YthlnfefpdmecaaaGreatDoor

/-
  PLAIN: words: where a text may be cut by the classes of its runes; what holds together; what parts. No walk.
-/
namespace Go.Proofs.YthlnfefpdmecaaaGreatDoor

def wEnd (c : Int) : Bool := c == 3 || c == 1 || c == 2
def wHang (c : Int) : Bool := c == 4 || c == 6 || c == 5
def wLet (c : Int) : Bool := c == 10 || c == 9
def wInW (c : Int) : Bool := c == 14 || c == 13 || c == 11
def wInN (c : Int) : Bool := c == 15 || c == 13 || c == 11
def wJoin (c : Int) : Bool := wLet c || c == 16 || c == 8
/-- The number of the last rune ahead of one that hangs on nothing; -1: there is none. -/
def wBack (c : List Int) : Nat → Int
  | 0 => -1
  | i + 1 => if wHang (c.getD i 0) then wBack c i else i
def wOf (c : List Int) (i : Int) : Int := if i < 0 ∨ (c.length : Int) ≤ i then -1 else c.getD i.toNat 0
/-- The class of the first rune behind one that hangs on nothing. -/
def wOn (c : List Int) (i : Nat) : Int := (((c.drop (i + 1)).dropWhile wHang).head?).getD (-1)
def wRegGo (c : List Int) : Nat → Nat → Nat
  | 0, _ => 0
  | f + 1, i => if wOf c (wBack c i) = 7 then wRegGo c f (wBack c i).toNat + 1 else 0
def wReg (c : List Int) (i : Nat) : Nat := wRegGo c (i + 1) i
/-- Do letters and digits hold together there? -/
def wLetters (z a q n : Int) : Bool :=
  (wLet a && wLet q || wLet a && wInW q && wLet n || wLet z && wInW a && wLet q) ||
  (a == 9 && q == 11 || a == 9 && q == 12 && n == 9 || z == 9 && a == 12 && q == 9) ||
  (a == 16 && (q == 16 || wLet q) || wLet a && q == 16) ||
  (z == 16 && wInN a && q == 16 || a == 16 && wInN q && n == 16) ||
  (a == 8 && q == 8 || (wJoin a || a == 17) && q == 17 || a == 17 && wJoin q)
/-- May one cut ahead of a rune that is not the first? -/
def wCut (c : List Int) (i : Nat) : Bool :=
  let p := c.getD (i - 1) 0
  let q := c.getD i 0
  if p = 1 ∧ q = 2 then false
  else if wEnd p || wEnd q then true
  else if (p == 5 && q == 19) || (p == 18 && q == 18) || wHang q then false
  else
    let b := wBack c i
    if wLetters (wOf c (wBack c b.toNat)) (wOf c b) q (wOn c i) then false
    else !(q == 7) || wReg c i % 2 == 0
theorem wBack_lt (c : List Int) : ∀ i, wBack c i < (i : Int) ∧ -1 ≤ wBack c i
  | 0 => by simp [wBack]
  | i + 1 => by
    have ih := wBack_lt c i
    unfold wBack
    split <;> omega
theorem wBack_here {c : List Int} {i : Nat} (h : wHang (c.getD i 0) = false) : wBack c (i + 1) = i := by unfold wBack; rw [h]; rfl
theorem wOf_nat {c : List Int} {i : Nat} (h : i < c.length) : wOf c (i : Int) = c.getD i 0 := by unfold wOf; rw [if_neg (by omega), Int.toNat_natCast]

/-- Between which two classes no bound stands, whatever stands around. -/
def wGlue (a b : Int) : Bool := (wLet a && wLet b) || (a == 16 && b == 16) || (wLet a && b == 16) || (a == 16 && wLet b) || (a == 8 && b == 8) || (wHang b && !(wEnd a))
theorem wLet_iff (c : Int) : wLet c = true ↔ c = 10 ∨ c = 9 := by simp [wLet]
theorem wHang_iff (c : Int) : wHang c = true ↔ c = 4 ∨ c = 6 ∨ c = 5 := by simp [wHang, or_assoc]
theorem wEnd_iff (c : Int) : wEnd c = true ↔ c = 3 ∨ c = 1 ∨ c = 2 := by simp [wEnd, or_assoc]
theorem bool_false {b : Bool} (h : ¬ b = true) : b = false := by cases b; rfl; exact absurd rfl h
theorem wCut_glue {c : List Int} {i : Nat} (hi : i + 1 < c.length) (h : wGlue (c.getD i 0) (c.getD (i + 1) 0) = true) : wCut c (i + 1) = false := by
  unfold wCut
  rw [show i + 1 - 1 = i from rfl]
  generalize hp : c.getD i 0 = p at h
  generalize hq : c.getD (i + 1) 0 = q at h
  simp only
  by_cases h12 : p = 1 ∧ q = 2
  · rw [if_pos h12]
  · rw [if_neg h12]
    simp only [wGlue, Bool.or_eq_true, Bool.and_eq_true, wLet_iff, wHang_iff, beq_iff_eq, Bool.not_eq_true'] at h
    have hend : (wEnd p || wEnd q) = false := by
      refine bool_false fun k => ?_
      rw [Bool.or_eq_true, wEnd_iff, wEnd_iff] at k
      rcases h with h | h
      · omega
      · have := h.2
        have hpe : ¬ (p = 3 ∨ p = 1 ∨ p = 2) := fun e => by rw [(wEnd_iff p).2 e] at this; cases this
        omega
    rw [hend]
    simp only [Bool.false_eq_true, if_false]
    rcases h with h | h
    · have hh : wHang p = false := bool_false fun k => by rw [wHang_iff] at k; omega
      split
      · rfl
      · have hb : wBack c (i + 1) = i := wBack_here (by rw [hp]; exact hh)
        rw [hb, wOf_nat (by omega), hp]
        have : wLetters (wOf c (wBack c (i : Int).toNat)) p q (wOn c (i + 1)) = true := by
          generalize wOf c (wBack c (i : Int).toNat) = z
          generalize wOn c (i + 1) = n
          rcases h with (((⟨h1 | h1, h2 | h2⟩ | ⟨h1, h2⟩) | ⟨h1 | h1, h2⟩) | ⟨h1, h2 | h2⟩) | ⟨h1, h2⟩
          all_goals (rw [h1, h2]; simp [wLetters, wLet, wInW, wInN, wJoin])
        rw [this, if_pos rfl]
    · rw [if_pos]
      rw [Bool.or_eq_true]
      exact .inr ((wHang_iff q).2 h.1)
theorem wCut_end {c : List Int} {i : Nat} (h : wEnd (c.getD i 0) = true ∨ wEnd (c.getD (i + 1) 0) = true) : wCut c (i + 1) = !decide (c.getD i 0 = 1 ∧ c.getD (i + 1) 0 = 2) := by
  unfold wCut
  rw [show i + 1 - 1 = i from rfl]
  by_cases h12 : c.getD i 0 = 1 ∧ c.getD (i + 1) 0 = 2
  · rw [if_pos h12, decide_eq_true h12]; rfl
  · rw [if_neg h12, decide_eq_false h12, if_pos (by rcases h with h | h <;> rw [h] <;> simp)]; rfl
end Go.Proofs.YthlnfefpdmecaaaGreatDoor

/-
  word: the tests of a class, walked.
-/
namespace Go.Proofs.YthlnfefpdmecaaaGreatDoor
open Go.RowKit

set_option maxHeartbeats 400000 in
theorem klettered_any (c : Int) (w : World) : Calls Tryz.prog 74 #[.int .i64 c] w fun e w' => e = .returned (.bool (wLet c)) ∧ w = w' := by
  rcases (by omega : c = 10 ∨ c = 9 ∨ (c ≠ 10 ∧ c ≠ 9)) with rfl | rfl | ⟨h1, h2⟩
  iterate 2
    · go_enter Tryz.func74, Tryz.ntmps74
      go_wp2
      go_ret
      exact ⟨rfl, rfl⟩
  · have HV : Hid (wLet c = false) := Lib.hid (by simp [wLet, h1, h2])
    have e1 := beq_eq_false_iff_ne.2 h1
    have e2 := beq_eq_false_iff_ne.2 h2
    clear h1 h2
    go_enter Tryz.func74, Tryz.ntmps74
    go_wp2
    go_ret
    exact ⟨by rw [HV.out]; rfl, rfl⟩
set_option maxHeartbeats 400000 in
theorem kends_any (c : Int) (w : World) : Calls Tryz.prog 76 #[.int .i64 c] w fun e w' => e = .returned (.bool (wEnd c)) ∧ w = w' := by
  rcases (by omega : c = 3 ∨ c = 1 ∨ c = 2 ∨ (c ≠ 3 ∧ c ≠ 1 ∧ c ≠ 2)) with rfl | rfl | rfl | ⟨h1, h2, h3⟩
  iterate 3
    · go_enter Tryz.func76, Tryz.ntmps76
      go_wp2
      go_ret
      exact ⟨rfl, rfl⟩
  · have HV : Hid (wEnd c = false) := Lib.hid (by simp [wEnd, h1, h2, h3])
    have e1 := beq_eq_false_iff_ne.2 h1
    have e2 := beq_eq_false_iff_ne.2 h2
    have e3 := beq_eq_false_iff_ne.2 h3
    clear h1 h2 h3
    go_enter Tryz.func76, Tryz.ntmps76
    go_wp2
    go_ret
    exact ⟨by rw [HV.out]; rfl, rfl⟩
set_option maxHeartbeats 400000 in
theorem khangs_any (c : Int) (w : World) : Calls Tryz.prog 78 #[.int .i64 c] w fun e w' => e = .returned (.bool (wHang c)) ∧ w = w' := by
  rcases (by omega : c = 4 ∨ c = 6 ∨ c = 5 ∨ (c ≠ 4 ∧ c ≠ 6 ∧ c ≠ 5)) with rfl | rfl | rfl | ⟨h1, h2, h3⟩
  iterate 3
    · go_enter Tryz.func78, Tryz.ntmps78
      go_wp2
      go_ret
      exact ⟨rfl, rfl⟩
  · have HV : Hid (wHang c = false) := Lib.hid (by simp [wHang, h1, h2, h3])
    have e1 := beq_eq_false_iff_ne.2 h1
    have e2 := beq_eq_false_iff_ne.2 h2
    have e3 := beq_eq_false_iff_ne.2 h3
    clear h1 h2 h3
    go_enter Tryz.func78, Tryz.ntmps78
    go_wp2
    go_ret
    exact ⟨by rw [HV.out]; rfl, rfl⟩
set_option maxHeartbeats 400000 in
theorem kinWord_any (c : Int) (w : World) : Calls Tryz.prog 157 #[.int .i64 c] w fun e w' => e = .returned (.bool (wInW c)) ∧ w = w' := by
  rcases (by omega : c = 14 ∨ c = 13 ∨ c = 11 ∨ (c ≠ 14 ∧ c ≠ 13 ∧ c ≠ 11)) with rfl | rfl | rfl | ⟨h1, h2, h3⟩
  iterate 3
    · go_enter Tryz.func157, Tryz.ntmps157
      go_wp2
      go_ret
      exact ⟨rfl, rfl⟩
  · have HV : Hid (wInW c = false) := Lib.hid (by simp [wInW, h1, h2, h3])
    have e1 := beq_eq_false_iff_ne.2 h1
    have e2 := beq_eq_false_iff_ne.2 h2
    have e3 := beq_eq_false_iff_ne.2 h3
    clear h1 h2 h3
    go_enter Tryz.func157, Tryz.ntmps157
    go_wp2
    go_ret
    exact ⟨by rw [HV.out]; rfl, rfl⟩
set_option maxHeartbeats 400000 in
theorem kinNumber_any (c : Int) (w : World) : Calls Tryz.prog 158 #[.int .i64 c] w fun e w' => e = .returned (.bool (wInN c)) ∧ w = w' := by
  rcases (by omega : c = 15 ∨ c = 13 ∨ c = 11 ∨ (c ≠ 15 ∧ c ≠ 13 ∧ c ≠ 11)) with rfl | rfl | rfl | ⟨h1, h2, h3⟩
  iterate 3
    · go_enter Tryz.func158, Tryz.ntmps158
      go_wp2
      go_ret
      exact ⟨rfl, rfl⟩
  · have HV : Hid (wInN c = false) := Lib.hid (by simp [wInN, h1, h2, h3])
    have e1 := beq_eq_false_iff_ne.2 h1
    have e2 := beq_eq_false_iff_ne.2 h2
    have e3 := beq_eq_false_iff_ne.2 h3
    clear h1 h2 h3
    go_enter Tryz.func158, Tryz.ntmps158
    go_wp2
    go_ret
    exact ⟨by rw [HV.out]; rfl, rfl⟩
set_option maxHeartbeats 400000 in
theorem kjoined_any (c : Int) (w : World) : Calls Tryz.prog 159 #[.int .i64 c] w fun e w' => e = .returned (.bool (wJoin c)) ∧ w = w' := by
  rcases (by cases wLet c <;> simp : wLet c = true ∨ wLet c = false) with h | h
  · have HV : Hid (wJoin c = true) := Lib.hid (by simp [wJoin, h])
    go_enter Tryz.func159, Tryz.ntmps159
    go_wp2_with (go_at_call 74; refine (klettered_any _ _).mono ?_; rw [h]; rintro e w' ⟨rfl, rfl⟩)
    go_ret
    exact ⟨by rw [HV.out]; rfl, rfl⟩
  · rcases (by omega : c = 16 ∨ c = 8 ∨ (c ≠ 16 ∧ c ≠ 8)) with rfl | rfl | ⟨h1, h2⟩
    iterate 2
      · go_enter Tryz.func159, Tryz.ntmps159
        go_wp2_with (go_at_call 74; refine (klettered_any _ _).mono ?_; rintro e w' ⟨rfl, rfl⟩)
        go_ret
        exact ⟨rfl, rfl⟩
    · have HV : Hid (wJoin c = false) := Lib.hid (by simp [wJoin, h, h1, h2])
      have e1 := beq_eq_false_iff_ne.2 h1
      have e2 := beq_eq_false_iff_ne.2 h2
      clear h1 h2
      go_enter Tryz.func159, Tryz.ntmps159
      go_wp2_with (go_at_call 74; refine (klettered_any _ _).mono ?_; rw [h]; rintro e w' ⟨rfl, rfl⟩)
      go_ret
      exact ⟨by rw [HV.out]; rfl, rfl⟩
end Go.Proofs.YthlnfefpdmecaaaGreatDoor

/-
  word: what stands ahead of a rune and behind it, walked.
-/
namespace Go.Proofs.YthlnfefpdmecaaaGreatDoor
open Go.RowKit

def encZ (x : Int) : List Value := [.int .i64 x]
theorem encZ_ok (l : List Int) : ∀ y ∈ l.map encZ, y.length = 1 ∧ ∀ u ∈ y, u.oneCell' = true := by
  intro y hy; obtain ⟨r, _, rfl⟩ := List.mem_map.1 hy
  exact ⟨rfl, by simp [encZ, Value.oneCell']⟩
theorem Rd.atZ {w : World} {A : Option Addr} {l : List Int} {k : Nat} {x : Int} (h : Rd w 1 A (l.map encZ)) (hk : l[k]? = some x) : ∃ b off, A = some ⟨b, off, none⟩ ∧ w.cell? ⟨b, off + k, none⟩ = some (.int .i64 x) := by
  obtain ⟨b, off, rfl, hc⟩ := h (by intro e; cases l with | nil => simp at hk | cons _ _ => simp at e)
  have h0 := hc k 0 (encZ x) (.int .i64 x) (by simp [hk]) rfl
  exact ⟨b, off, rfl, by simpa using h0⟩
theorem getD_of {c : List Int} {k : Nat} {x : Int} (h : c[k]? = some x) : c.getD k 0 = x := by rw [List.getD_eq_getElem?_getD, h]; rfl

/-- The runes of a text, as the methods take them. -/
def txV (A : Option Addr) (na ca : Nat) (B : Option Addr) (n cb : Nat) (z : Int) : Array Value := #[.slice A na ca, .slice B n cb, .int .i64 z]

set_option maxRecDepth 100000 in
set_option maxHeartbeats 2000000 in
theorem kback_any (A B : Option Addr) (na ca n cb : Nat) (z : Int) (c : List Int) (i : Nat) (w : World) (hB : Rd w 1 B (c.map encZ)) (hl : c.length = n) (hi : i ≤ n) (hn : n ≤ 4000000) :
    Calls Tryz.prog 123 #[.agg #[.slice A na ca, .slice B n cb, .int .i64 z], .int .i64 i] w fun e w' => e = .returned (.int .i64 (wBack c i)) ∧ Below w.heap.size w w' := by
  have Hl := Lib.hid hl
  clear hl
  have hBz : Below w.heap.size w (w.alloc (.cells #[.slice A na ca, .slice B n cb, .int .i64 z] 75)) := (Below.refl _ _).alloc (Nat.le_refl _) _
  have hK := Blk.new w 75 #[.slice A na ca, .slice B n cb, .int .i64 z]
  have k1 := hK.cell 1
  simp only [List.getElem?_toArray, List.getElem?_cons_zero, List.getElem?_cons_succ] at k1
  go_enter Tryz.func123, Tryz.ntmps123
  go_wp2
  go_loopw [1] (fun v wr => ∃ (j : Nat) (x : Int), v = .int .i64 x ∧ x = (j : Int) - 1 ∧ j ≤ i ∧ Hid (wBack c j = wBack c i) ∧ wr = w.alloc (.cells #[.slice A na ca, .slice B n cb, .int .i64 z] 75)) (fun v _ => (intOf v + 1).toNat)
  case atStart => exact ⟨i, _, rfl, by go_num, Nat.le_refl _, Lib.hid rfl, rfl⟩
  case round =>
    obtain ⟨j, x, rfl, hx, hj, HW, rfl⟩ := hrel
    cases j with
    | zero =>
      have hx1 : x < 0 := by omega
      have hx0 : ¬ 0 ≤ x := by omega
      have HV : Hid (wBack c i = x) := Lib.hid (by rw [← HW.out, show x = -1 by omega]; rfl)
      clear hx
      go_wp2
      go_ret
      exact ⟨by rw [HV.out]; rfl, hBz⟩
    | succ j =>
      obtain rfl : x = (j : Int) := by omega
      clear hx
      obtain ⟨q, Hq⟩ : ∃ q, Hid (c[j]? = some q) := ⟨_, Lib.hid (List.getElem?_eq_getElem (by have := Hl.out; omega))⟩
      obtain ⟨b, off, rfl, hc⟩ := hB.atZ Hq.out
      have hc := cell_keep hc hBz
      cases hh : wHang q with
      | true =>
        have HW' : Hid (wBack c j = wBack c i) := Lib.hid (by rw [← HW.out, wBack, getD_of Hq.out, hh]; rfl)
        go_wp2_with (go_at_call 78; refine (khangs_any _ _).mono ?_; rw [hh]; rintro e w' ⟨rfl, rfl⟩)
        go_roundw
        case rel => exact ⟨j, _, rfl, by go_num, by omega, HW', trivial⟩
        case measure => simp [intOf]
      | false =>
        have HV : Hid (wBack c i = j) := Lib.hid (by rw [← HW.out]; exact wBack_here (by rw [getD_of Hq.out]; exact hh))
        go_wp2_with (go_at_call 78; refine (khangs_any _ _).mono ?_; rw [hh]; rintro e w' ⟨rfl, rfl⟩)
        go_ret
        exact ⟨by rw [HV.out]; rfl, hBz⟩

set_option maxRecDepth 100000 in
set_option maxHeartbeats 1000000 in
theorem kof_any (A B : Option Addr) (na ca n cb : Nat) (z : Int) (c : List Int) (i : Int) (w : World) (hB : Rd w 1 B (c.map encZ)) (hl : c.length = n) (_hn : n ≤ 4000000) (hi : -10 ≤ i ∧ i ≤ 4000000) :
    Calls Tryz.prog 125 #[.agg #[.slice A na ca, .slice B n cb, .int .i64 z], .int .i64 i] w fun e w' => e = .returned (.int .i64 (wOf c i)) ∧ Below w.heap.size w w' := by
  have hBz : Below w.heap.size w (w.alloc (.cells #[.slice A na ca, .slice B n cb, .int .i64 z] 75)) := (Below.refl _ _).alloc (Nat.le_refl _) _
  have hK := Blk.new w 75 #[.slice A na ca, .slice B n cb, .int .i64 z]
  have k1 := hK.cell 1
  simp only [List.getElem?_toArray, List.getElem?_cons_zero, List.getElem?_cons_succ] at k1
  rcases (by omega : i < 0 ∨ (¬ i < 0 ∧ (n : Int) ≤ i) ∨ (0 ≤ i ∧ i < n)) with h | ⟨h, h2⟩ | ⟨h, h2⟩
  · have HV : Hid (wOf c i = -1) := Lib.hid (by unfold wOf; rw [if_pos (.inl h)])
    go_enter Tryz.func125, Tryz.ntmps125
    go_wp2
    go_ret
    exact ⟨by rw [HV.out]; rfl, hBz⟩
  · have HV : Hid (wOf c i = -1) := Lib.hid (by unfold wOf; rw [if_pos (.inr (by omega))])
    clear hl
    go_enter Tryz.func125, Tryz.ntmps125
    go_wp2
    go_ret
    exact ⟨by rw [HV.out]; rfl, hBz⟩
  · obtain ⟨k, rfl⟩ : ∃ k : Nat, i = k := ⟨i.toNat, by omega⟩
    have hk : k < n := by omega
    obtain ⟨q, Hq⟩ : ∃ q, Hid (c[k]? = some q) := ⟨_, Lib.hid (List.getElem?_eq_getElem (by omega))⟩
    obtain ⟨b, off, rfl, hc⟩ := hB.atZ Hq.out
    have hc := cell_keep hc hBz
    have HV : Hid (wOf c (k : Int) = q) := Lib.hid (by rw [wOf_nat (by omega), getD_of Hq.out])
    clear hl
    go_enter Tryz.func125, Tryz.ntmps125
    go_wp2
    go_ret
    exact ⟨by rw [HV.out]; rfl, hBz⟩

theorem wOf_bd (c : List Int) (hc : ∀ x ∈ c, 0 ≤ x ∧ x ≤ 64) (i : Int) : -1 ≤ wOf c i ∧ wOf c i ≤ 64 := by
  unfold wOf
  split
  · omega
  · rename_i h
    have hk : i.toNat < c.length := by omega
    have := hc _ (List.getElem_mem hk)
    rw [List.getD_eq_getElem?_getD, List.getElem?_eq_getElem hk]
    simp only [Option.getD_some]
    omega

set_option maxRecDepth 100000 in
set_option maxHeartbeats 2000000 in
theorem kon_any (A B : Option Addr) (na ca n cb : Nat) (z : Int) (c : List Int) (i : Nat) (w : World) (hB : Rd w 1 B (c.map encZ)) (hl : c.length = n) (hi : i < n) (hn : n ≤ 3000000) :
    Calls Tryz.prog 126 #[.agg #[.slice A na ca, .slice B n cb, .int .i64 z], .int .i64 i] w fun e w' => e = .returned (.int .i64 (wOn c i)) ∧ Below w.heap.size w w' := by
  have Hl := Lib.hid hl
  clear hl
  have hBz : Below w.heap.size w (w.alloc (.cells #[.slice A na ca, .slice B n cb, .int .i64 z] 75)) := (Below.refl _ _).alloc (Nat.le_refl _) _
  have hK := Blk.new w 75 #[.slice A na ca, .slice B n cb, .int .i64 z]
  have k0 := hK.cell 0
  have k1 := hK.cell 1
  have k2 := hK.cell 2
  simp only [List.getElem?_toArray, List.getElem?_cons_zero, List.getElem?_cons_succ] at k0 k1 k2
  have HO := Lib.hid (fun (j : Nat) (hj : j ≤ n) => kof_any A B na ca n cb z c j _ (hB.below hBz) Hl.out (by omega) (by omega))
  go_enter Tryz.func126, Tryz.ntmps126
  go_wp2
  go_loopw [1] (fun v wr => ∃ j : Nat, v = .int .i64 j ∧ j ≤ n ∧ Hid (((c.drop j).dropWhile wHang).head?.getD (-1) = wOn c i) ∧ wr = w.alloc (.cells #[.slice A na ca, .slice B n cb, .int .i64 z] 75)) (fun v _ => n - (intOf v).toNat)
  case atStart => exact ⟨i + 1, by go_num, by omega, Lib.hid rfl, rfl⟩
  case round =>
    obtain ⟨j, rfl, hj, HW, rfl⟩ := hrel
    by_cases hlt : j < n
    · obtain ⟨q, Hq⟩ : ∃ q, Hid (c[j]? = some q) := ⟨_, Lib.hid (List.getElem?_eq_getElem (by have := Hl.out; omega))⟩
      have hd : Hid (c.drop j = q :: c.drop (j + 1)) := Lib.hid (by
        obtain ⟨h1, h2⟩ := List.getElem?_eq_some_iff.1 Hq.out
        rw [List.drop_eq_getElem_cons h1, h2])
      obtain ⟨b, off, e0, hc⟩ := hB.atZ Hq.out
      have hc := cell_keep hc hBz
      cases hh : wHang q with
      | true =>
        have HW' : Hid (((c.drop (j + 1)).dropWhile wHang).head?.getD (-1) = wOn c i) := Lib.hid (by rw [← HW.out, hd.out, List.dropWhile_cons, hh]; rfl)
        subst e0
        go_wp2_with (go_at_call 78; refine (khangs_any _ _).mono ?_; rw [hh]; rintro e w' ⟨rfl, rfl⟩)
        go_roundw
        case rel => exact ⟨j + 1, by go_num, by omega, HW', trivial⟩
        case measure => simp [intOf]; omega
      | false =>
        have HV : Hid (wOf c (j : Int) = wOn c i) := Lib.hid (by rw [← HW.out, hd.out, List.dropWhile_cons, hh, wOf_nat (by have := Hl.out; omega), getD_of Hq.out]; rfl)
        have HOj := Lib.hid (HO.out j hj)
        subst e0
        clear HO
        go_wp2_with (first | (go_at_call 78; refine (khangs_any _ _).mono ?_; rw [hh]; rintro e w' ⟨rfl, rfl⟩) | (go_at_call 125; refine HOj.out.mono ?_; rintro e w' ⟨rfl, hb⟩))
        go_ret
        exact ⟨by rw [HV.out]; rfl, hBz.trans (hb.mono hBz.size)⟩
    · obtain rfl : j = n := by omega
      have HV : Hid (wOf c (j : Int) = wOn c i) := Lib.hid (by
        rw [← HW.out, List.drop_eq_nil_of_le (by have := Hl.out; omega)]
        unfold wOf
        rw [if_pos (.inr (by have := Hl.out; omega))]; rfl)
      have HOj := Lib.hid (HO.out j hj)
      clear HO
      go_wp2_with (go_at_call 125; refine HOj.out.mono ?_; rintro e w' ⟨rfl, hb⟩)
      go_ret
      exact ⟨by rw [HV.out]; rfl, hBz.trans (hb.mono hBz.size)⟩

/-- How far the count of regions has come. -/
def RegAt (c : List Int) (i k : Nat) (x : Int) : Prop := -1 ≤ x ∧ (k : Int) + x < i ∧ ∃ f j, x = wBack c j ∧ j < f ∧ k + wRegGo c f j = wReg c i
theorem regAt_first (c : List Int) (i : Nat) : RegAt c i 0 (wBack c i) := ⟨(wBack_lt c i).2, by have := (wBack_lt c i).1; omega, i + 1, i, rfl, by omega, by rw [Nat.zero_add]; rfl⟩
theorem regAt_next {c : List Int} {i k : Nat} {x : Int} (h : RegAt c i k x) (h7 : wOf c x = 7) : ∃ m : Nat, x = m ∧ m < c.length ∧ RegAt c i (k + 1) (wBack c m) := by
  obtain ⟨h1, h2, f, j, rfl, hf, hk⟩ := h
  have h0 : 0 ≤ wBack c j ∧ wBack c j < c.length := by
    unfold wOf at h7
    split at h7
    · omega
    · omega
  obtain ⟨m, hm⟩ : ∃ m : Nat, wBack c j = m := ⟨(wBack c j).toNat, by omega⟩
  rw [hm] at h0 h2 h7 ⊢
  cases f with
  | zero => omega
  | succ f =>
    rw [wRegGo, hm, if_pos h7, Int.toNat_natCast] at hk
    have hl := (wBack_lt c m)
    have hj := (wBack_lt c j).1
    exact ⟨m, rfl, by omega, hl.2, by omega, f, m, rfl, by omega, by omega⟩
theorem regAt_end {c : List Int} {i k : Nat} {x : Int} (h : RegAt c i k x) (h7 : wOf c x ≠ 7) : k = wReg c i := by
  obtain ⟨h1, h2, f, j, rfl, hf, hk⟩ := h
  cases f with
  | zero => omega
  | succ f => rw [wRegGo, if_neg h7] at hk; omega

set_option maxRecDepth 100000 in
set_option maxHeartbeats 2000000 in
theorem kregions_any (A B : Option Addr) (na ca n cb : Nat) (z : Int) (c : List Int) (i : Nat) (w : World) (hB : Rd w 1 B (c.map encZ)) (hl : c.length = n) (hi : i ≤ n) (hn : n ≤ 3000000) :
    Calls Tryz.prog 127 #[.agg #[.slice A na ca, .slice B n cb, .int .i64 z], .int .i64 i] w fun e w' => e = .returned (.int .i64 (wReg c i : Nat)) ∧ Below w.heap.size w w' := by
  have Hl := Lib.hid hl
  clear hl
  have hBz : Below w.heap.size w (w.alloc (.cells #[.slice A na ca, .slice B n cb, .int .i64 z] 75)) := (Below.refl _ _).alloc (Nat.le_refl _) _
  have hK := Blk.new w 75 #[.slice A na ca, .slice B n cb, .int .i64 z]
  have HOf := Lib.hid (fun (j : Int) W (h : Below w.heap.size w W) (hj : -10 ≤ j ∧ j ≤ 4000000) => kof_any A B na ca n cb z c j W (hB.below h) Hl.out (by omega) hj)
  have HBk := Lib.hid (fun (j : Nat) W (h : Below w.heap.size w W) (hj : j ≤ n) => kback_any A B na ca n cb z c j W (hB.below h) Hl.out hj (by omega))
  have HR0 := Lib.hid (regAt_first c i)
  have hs0 : w.heap.size < (w.alloc (.cells #[.slice A na ca, .slice B n cb, .int .i64 z] 75)).heap.size := by simp
  have k0 := hK.cell 0
  have k1 := hK.cell 1
  have k2 := hK.cell 2
  simp only [List.getElem?_toArray, List.getElem?_cons_zero, List.getElem?_cons_succ] at k0 k1 k2
  go_enter Tryz.func127, Tryz.ntmps127
  go_wp2_with fail
  refine (HBk.out i _ hBz hi).mono ?_
  generalize wBack c i = x0 at HR0
  rintro e w1 ⟨rfl, hb1⟩
  replace k0 := cell_keep k0 hb1
  replace k1 := cell_keep k1 hb1
  replace k2 := cell_keep k2 hb1
  have hB1 := hBz.trans (hb1.mono hBz.size)
  clear hBz hb1
  go_wp2_with fail
  go_loopw [1, 5] (fun u v wr => ∃ (x : Int) (k : Nat), u = .int .i64 x ∧ v = .int .i64 k ∧ Hid (RegAt c i k x) ∧ Below w.heap.size w wr ∧ wr.cell? ⟨w.heap.size, 0, none⟩ = some (.slice A na ca) ∧ wr.cell? ⟨w.heap.size, 1, none⟩ = some (.slice B n cb) ∧ wr.cell? ⟨w.heap.size, 2, none⟩ = some (.int .i64 z)) (fun u _ _ => (intOf u + 1).toNat)
  case atStart => exact ⟨_, 0, rfl, rfl, HR0, hB1, k0, k1, k2⟩
  case round =>
    clear k0 k1 k2 hB1
    obtain ⟨x, k, rfl, rfl, HR, hb, k0, k1, k2⟩ := hrel
    have hx1 := HR.out.1
    have hx2 := HR.out.2.1
    have HOx := Lib.hid (HOf.out x wr hb (by omega))
    by_cases h7 : wOf c x = 7
    · rw [h7] at HOx
      obtain ⟨m, rfl, hm, hR'⟩ := regAt_next HR.out h7
      have HR' := Lib.hid hR'
      have hm2 : m ≤ n := by have := Hl.out; omega
      clear hR' h7 hm HR
      have hx3 := HR'.out.1
      have hx4 := HR'.out.2.1
      go_wp2_with fail
      refine HOx.out.mono ?_
      rintro e w2 ⟨rfl, hb2⟩
      replace k0 := cell_keep k0 hb2
      replace k1 := cell_keep k1 hb2
      replace k2 := cell_keep k2 hb2
      have hbb := below_step hb hb2 hb.size
      go_wp2_with fail
      refine (HBk.out m w2 hbb hm2).mono ?_
      have hlt : wBack c m < (m : Int) := (wBack_lt c m).1
      generalize wBack c m = y at HR' hx3 hx4 hlt
      rintro e w3 ⟨rfl, hb3⟩
      replace k0 := cell_keep k0 hb3
      replace k1 := cell_keep k1 hb3
      replace k2 := cell_keep k2 hb3
      have hbc := below_step hbb hb3 hbb.size
      go_wp2
      go_roundw
      case rel => exact ⟨y, k + 1, rfl, by go_num, HR', hbc, k0, k1, k2⟩
      case measure => simp [intOf]; omega
    · have HV : Hid (k = wReg c i) := Lib.hid (regAt_end HR.out h7)
      have e7 : (wOf c x == 7) = false := beq_eq_false_iff_ne.2 h7
      clear h7
      generalize wOf c x = y at HOx e7
      go_wp2_with fail
      refine HOx.out.mono ?_
      rintro e w2 ⟨rfl, hb2⟩
      go_wp2
      go_ret
      exact ⟨by rw [HV.out]; rfl, below_step hb hb2 hb.size⟩
end Go.Proofs.YthlnfefpdmecaaaGreatDoor

/-
  PLAIN: words: a line end parts a text: the cuts are those of both sides. No walk.
-/
namespace Go.Proofs.YthlnfefpdmecaaaGreatDoor

theorem wRegGo_fuel (c : List Int) : ∀ (f g i : Nat), i < f → i < g → wRegGo c f i = wRegGo c g i
  | 0, _, _, h, _ => by omega
  | _, 0, _, _, h => by omega
  | f + 1, g + 1, i, hf, hg => by
    unfold wRegGo
    split
    · rename_i h7
      have hb := wBack_lt c i
      have h0 : 0 ≤ wBack c i := by
        rcases Int.lt_or_le (wBack c i) 0 with h | h
        · have : wOf c (wBack c i) = -1 := by unfold wOf; rw [if_pos (.inl h)]
          omega
        · exact h
      rw [wRegGo_fuel c f g _ (by omega) (by omega)]
    · rfl
section
variable {A B : List Int}
theorem gw_left {i : Nat} (h : i < A.length) : (A ++ 2 :: B).getD i 0 = A.getD i 0 := by
  rw [List.getD_eq_getElem?_getD, List.getD_eq_getElem?_getD, List.getElem?_append_left h]
theorem gw_mid : (A ++ 2 :: B).getD A.length 0 = 2 := by
  rw [List.getD_eq_getElem?_getD, List.getElem?_append_right (Nat.le_refl _), Nat.sub_self]; rfl
theorem gw_right (j : Nat) : (A ++ 2 :: B).getD (A.length + 1 + j) 0 = B.getD j 0 := by
  rw [List.getD_eq_getElem?_getD, List.getD_eq_getElem?_getD, List.getElem?_append_right (by omega), show A.length + 1 + j - A.length = j + 1 by omega, List.getElem?_cons_succ]
theorem back_left : ∀ {i : Nat}, i ≤ A.length → wBack (A ++ 2 :: B) i = wBack A i
  | 0, _ => rfl
  | i + 1, h => by
    unfold wBack
    rw [gw_left (by omega), back_left (by omega)]
theorem of_left {i : Int} (h : i < A.length) : wOf (A ++ 2 :: B) i = wOf A i := by
  unfold wOf
  by_cases h0 : i < 0
  · rw [if_pos (.inl h0), if_pos (.inl h0)]
  · rw [if_neg (by rw [List.length_append, List.length_cons]; omega), if_neg (by omega), gw_left (by omega)]
theorem drop_hang : ∀ (l m : List Int), ((l ++ 2 :: m).dropWhile wHang).head?.getD (-1) = (l.dropWhile wHang).head?.getD (-1) ∨ (l.dropWhile wHang).head?.getD (-1) = -1 ∧ ((l ++ 2 :: m).dropWhile wHang).head?.getD (-1) = 2
  | [], m => .inr ⟨rfl, rfl⟩
  | x :: l, m => by
    rw [List.cons_append, List.dropWhile_cons, List.dropWhile_cons]
    split
    · exact drop_hang l m
    · exact .inl rfl
theorem on_left {i : Nat} (h : i < A.length) : wOn (A ++ 2 :: B) i = wOn A i ∨ wOn A i = -1 ∧ wOn (A ++ 2 :: B) i = 2 := by
  unfold wOn
  rw [List.drop_append_of_le_length (by omega)]
  exact drop_hang _ _
theorem letters_n (z a q : Int) : wLetters z a q 2 = wLetters z a q (-1) := by unfold wLetters; simp [wLet]
theorem letters_z (a q n : Int) : wLetters 2 a q n = wLetters (-1) a q n := by unfold wLetters; simp [wLet]
theorem letters_a {a : Int} (h : a = 2 ∨ a = -1) (z q n : Int) : wLetters z a q n = false := by
  unfold wLetters
  rcases h with rfl | rfl <;> simp [wLet, wInW, wInN, wJoin]
theorem regGo_left : ∀ (f : Nat) {i : Nat}, i ≤ A.length → wRegGo (A ++ 2 :: B) f i = wRegGo A f i
  | 0, _, _ => rfl
  | f + 1, i, h => by
    have hb := wBack_lt A i
    unfold wRegGo
    rw [back_left h, of_left (by omega), regGo_left f (by omega)]
theorem cut_left {i : Nat} (h : i < A.length) : wCut (A ++ 2 :: B) i = wCut A i := by
  unfold wCut
  dsimp only
  have hb := wBack_lt A i
  have hb2 := wBack_lt A (wBack A i).toNat
  rw [gw_left h, gw_left (by omega : i - 1 < A.length), back_left (i := i) (by omega), back_left (i := (wBack A i).toNat) (by omega), of_left (i := wBack A i) (by omega), of_left (i := wBack A (wBack A i).toNat) (by omega)]
  have hr : wReg (A ++ 2 :: B) i = wReg A i := regGo_left _ (by omega)
  rw [hr]
  rcases on_left (B := B) h with e | ⟨e1, e2⟩
  · rw [e]
  · rw [e1, e2]
    simp only [letters_n]
theorem back_right : ∀ (j : Nat), wBack (A ++ 2 :: B) (A.length + 1 + j) = if wBack B j = -1 then (A.length : Int) else A.length + 1 + wBack B j
  | 0 => by
    show wBack _ (A.length + 1) = _
    rw [wBack_here (by rw [gw_mid]; rfl)]; rfl
  | j + 1 => by
    have ih := back_right j
    have hb := wBack_lt B j
    show wBack _ ((A.length + 1 + j) + 1) = _
    rw [wBack, gw_right, ih, wBack]
    by_cases hh : wHang (B.getD j 0) = true
    · simp only [hh, if_true]
    · simp only [hh]
      simp only [Bool.false_eq_true, if_false]
      rw [if_neg (by omega)]; omega
theorem of_right (j : Nat) (hj : j ≤ B.length) : wOf (A ++ 2 :: B) (wBack (A ++ 2 :: B) (A.length + 1 + j)) = if wBack B j = -1 then 2 else wOf B (wBack B j) := by
  have hb := wBack_lt B j
  rw [back_right]
  split
  · rw [wOf_nat (by rw [List.length_append, List.length_cons]; omega), gw_mid]
  · rename_i hne
    obtain ⟨k, hk⟩ : ∃ k : Nat, wBack B j = k := ⟨(wBack B j).toNat, by omega⟩
    rw [hk, show (A.length : Int) + 1 + (k : Int) = ((A.length + 1 + k : Nat) : Int) by omega, wOf_nat (by rw [List.length_append, List.length_cons]; omega), gw_right, wOf_nat (by omega)]
theorem on_right (j : Nat) : wOn (A ++ 2 :: B) (A.length + 1 + j) = wOn B j := by
  unfold wOn
  rw [show A.length + 1 + j + 1 = A.length + (1 + (j + 1)) by omega, ← List.drop_drop, List.drop_left, ← List.drop_drop]; rfl
theorem regGo_right : ∀ (f j : Nat), j < f → j ≤ B.length → wRegGo (A ++ 2 :: B) (A.length + 1 + f) (A.length + 1 + j) = wRegGo B f j
  | 0, _, h, _ => by omega
  | f + 1, j, h, hj => by
    have hb := wBack_lt B j
    show wRegGo _ ((A.length + 1 + f) + 1) _ = _
    rw [wRegGo, of_right j hj, wRegGo]
    by_cases h0 : wBack B j = -1
    · rw [if_pos h0, if_neg (by omega), h0, if_neg (by unfold wOf; rw [if_pos (.inl (by omega))]; omega)]
    · rw [if_neg h0]
      split
      · rw [back_right, if_neg h0]
        have e : ((A.length : Int) + 1 + wBack B j).toNat = A.length + 1 + (wBack B j).toNat := by omega
        rw [e, regGo_right f _ (by omega) (by omega)]
      · rfl
theorem cut_right {j : Nat} (hj : j + 1 < B.length) : wCut (A ++ 2 :: B) (A.length + 1 + (j + 1)) = wCut B (j + 1) := by
  have hr : wReg (A ++ 2 :: B) (A.length + 1 + (j + 1)) = wReg B (j + 1) := by
    unfold wReg
    rw [show A.length + 1 + (j + 1) + 1 = A.length + 1 + (j + 1 + 1) by omega]
    exact regGo_right _ _ (by omega) (by omega)
  unfold wCut
  dsimp only
  rw [show A.length + 1 + (j + 1) - 1 = A.length + 1 + j by omega, show j + 1 - 1 = j by omega, gw_right, gw_right, hr, on_right, of_right _ (by omega), back_right]
  have hb := wBack_lt B (j + 1)
  by_cases h0 : wBack B (j + 1) = -1
  · simp only [h0, if_true]
    have ha : wOf B (-1) = -1 := by unfold wOf; rw [if_pos (.inl (by omega))]
    rw [ha]
    simp only [letters_a (.inl rfl : (2 : Int) = 2 ∨ (2 : Int) = -1), letters_a (.inr rfl : (-1 : Int) = 2 ∨ (-1 : Int) = -1)]
  · simp only [h0, if_false]
    obtain ⟨k, hk⟩ : ∃ k : Nat, wBack B (j + 1) = k := ⟨(wBack B (j + 1)).toNat, by omega⟩
    rw [hk] at hb ⊢
    rw [show ((A.length : Int) + 1 + (k : Int)).toNat = A.length + 1 + k by omega, Int.toNat_natCast, of_right k (by omega)]
    by_cases h1 : wBack B k = -1
    · have ha : wOf B (-1) = -1 := by unfold wOf; rw [if_pos (.inl (by omega))]
      simp only [h1, if_true, ha, letters_z]
    · simp only [h1, if_false]
theorem cut_mid (h : A.getD (A.length - 1) 0 ≠ 1) (hA : A ≠ []) : wCut (A ++ 2 :: B) A.length = true := by
  obtain ⟨i, hi⟩ : ∃ i, A.length = i + 1 := ⟨A.length - 1, by have := List.length_pos_iff.2 hA; omega⟩
  have hm := gw_mid (A := A) (B := B)
  rw [hi] at hm h
  rw [hi, wCut_end (.inr (by rw [hm]; rfl)), gw_left (by omega)]
  rw [Nat.add_sub_cancel] at h
  rw [decide_eq_false (fun k => h k.1)]; rfl
theorem cut_behind : wCut (A ++ 2 :: B) (A.length + 1) = true := by
  rw [wCut_end (.inl (by rw [gw_mid]; rfl)), gw_mid, decide_eq_false (by omega)]; rfl
end
end Go.Proofs.YthlnfefpdmecaaaGreatDoor

/-
  PLAIN: two texts joined by an ASCII byte: the runes are those of both sides. No walk.
-/
namespace Go.Proofs.YthlnfefpdmecaaaGreatDoor

theorem decN_cont {n b0 b1 b2 b3 R W : Nat} (h : Lib.decodeN n b0 b1 b2 b3 = (R, W)) : (2 ≤ W → 128 ≤ b1) ∧ (3 ≤ W → 128 ≤ b2) ∧ (4 ≤ W → 128 ≤ b3) ∧ W ≤ 4 := by
  unfold Lib.decodeN at h
  repeat' split at h
  all_goals (injection h with _ h; omega)
theorem dec_cont {s : ByteArray} {i k R W : Nat} (h : Utf8.decode s i = (R, W)) (hk : 0 < k) (hW : k < W) : 128 ≤ (s.get! (i + k)).toNat := by
  rw [Lib.decode_at] at h
  obtain ⟨h1, h2, h3, h4⟩ := decN_cont h
  rcases (show k = 1 ∨ k = 2 ∨ k = 3 by omega) with rfl | rfl | rfl
  · exact h1 (by omega)
  · exact h2 (by omega)
  · exact h3 (by omega)
/-- Where an ASCII byte stands a rune begins. -/
theorem ascii_at (s : ByteArray) {z : Nat} (hz : z < s.size) (ha : (s.get! z).toNat < 128) : ∀ (f a : Nat), s.size ≤ a + f → a ≤ z → ∃ x ∈ runesGo s f a, x.2.1 = z
  | 0, a, hf, hle => by omega
  | f + 1, a, hf, hle => by
    have hlt : a < s.size := by omega
    have hd := dec_bd s a hlt
    obtain ⟨⟨R, W⟩, hD⟩ : ∃ d, Utf8.decode s a = d := ⟨_, rfl⟩
    rw [hD] at hd
    simp only at hd
    have hr : runesGo s (f + 1) a = (R, a, a + W) :: runesGo s f (a + W) := by rw [runesGo, if_pos hlt, hD]
    rw [hr]
    by_cases haz : a = z
    · exact ⟨_, List.mem_cons_self, haz⟩
    · have hle2 : a + W ≤ z := by
        rcases Nat.lt_or_ge z (a + W) with h | h
        · have := dec_cont hD (k := z - a) (by omega) (by omega)
          rw [show a + (z - a) = z by omega] at this; omega
        · exact h
      obtain ⟨x, hx, e⟩ := ascii_at s hz ha f (a + W) (by omega) hle2
      exact ⟨x, List.mem_cons_of_mem _ hx, e⟩
def shR (p : Nat) (x : Nat × Nat × Nat) : Nat × Nat × Nat := (x.1, x.2.1 + p, x.2.2 + p)
/-- From a place on the runes are those of what stands there. -/
theorem runes_shift (u t : ByteArray) (p : Nat) (hz : u.size = t.size + p) (hg : ∀ k, u.get! (p + k) = t.get! k) : ∀ (f g a : Nat), t.size ≤ a + f → t.size ≤ a + g → runesGo u g (a + p) = (runesGo t f a).map (shR p)
  | 0, g, a, hf, hgf => by rw [runesGo_end (by omega)]; rfl
  | f + 1, g, a, hf, hgf => by
    by_cases hlt : a < t.size
    · obtain ⟨k, rfl, hk⟩ := runesGo_step (s := u) (f := g) (a := a + p) (by omega) (by omega)
      have hd : Utf8.decode u (a + p) = Utf8.decode t a := by
        rw [Lib.decode_at, Lib.decode_at, show u.size - (a + p) = t.size - a by omega]
        rw [show a + p = p + a by omega, hg, show p + a + 1 = p + (a + 1) by omega, show p + a + 2 = p + (a + 2) by omega, show p + a + 3 = p + (a + 3) by omega, hg, hg, hg]
      have hb := dec_bd t a hlt
      rw [hk, hd, runesGo, if_pos hlt, List.map_cons]
      rw [show a + p + (Utf8.decode t a).2 = a + (Utf8.decode t a).2 + p by omega, runes_shift u t p hz hg f k _ (by omega) (by omega)]; rfl
    · rw [runesGo_end (by omega), runesGo_end (s := t) (by omega)]; rfl
theorem split_at_place (s : ByteArray) {z : Nat} : ∀ (f a : Nat), s.size ≤ a + f → (∃ x ∈ runesGo s f a, x.2.1 = z) → runesGo s f a = ((runesGo s f a).takeWhile fun x => decide (x.2.1 < z)) ++ runesGo s s.size z
  | 0, a, hf, hx => by simp [runesGo] at hx
  | f + 1, a, hf, hx => by
    have hlt : a < s.size := by
      rcases Nat.lt_or_ge a s.size with h | h
      · exact h
      · rw [runesGo_end h] at hx; simp at hx
    have hd := dec_bd s a hlt
    have hr : runesGo s (f + 1) a = ((Utf8.decode s a).1, a, a + (Utf8.decode s a).2) :: runesGo s f (a + (Utf8.decode s a).2) := by rw [runesGo, if_pos hlt]
    obtain ⟨x, hm, hxz⟩ := hx
    rw [hr] at hm ⊢
    by_cases haz : a = z
    · subst haz
      rw [List.takeWhile_cons, if_neg (by simp), List.nil_append]
      obtain ⟨k, hk, e⟩ := runesGo_step (s := s) (f := s.size) (a := a) hlt (by omega)
      rw [e]
      congr 1
      have := runes_shift s s 0 (by omega) (fun k => by rw [Nat.zero_add]) f k (a + (Utf8.decode s a).2) (by omega) (by omega)
      rw [Nat.add_zero] at this
      rw [this]
      exact (List.map_id'' (fun y => by simp [shR]) _).symm
    · rcases List.mem_cons.1 hm with rfl | hm
      · exact absurd hxz haz
      · have hb := runesGo_bd _ _ x hm
        rw [List.takeWhile_cons, if_pos (by simp; omega), List.cons_append]
        congr 1
        exact split_at_place s f _ (by omega) ⟨x, hm, hxz⟩
/-- A text, an ASCII byte, a text. -/
theorem runes_join (s t : ByteArray) (c : UInt8) (hc : c.toNat < 128) {u : ByteArray} (hu : u.data.toList = s.data.toList ++ c :: t.data.toList) :
    runesP u = runesP s ++ (c.toNat, s.size, s.size + 1) :: (runesP t).map (shR (s.size + 1)) := by
  have hz : u.size = s.size + 1 + t.size := by rw [← size_data, hu, List.length_append, List.length_cons, size_data, size_data]; omega
  have hget : ∀ k, u.get! k = u.data.toList.getD k 0 := fun k => (Lib.getD_get!' u k).symm
  have hgc : u.get! s.size = c := by
    rw [hget, hu, List.getD_eq_getElem?_getD, List.getElem?_append_right (by rw [size_data]; exact Nat.le_refl _), size_data, Nat.sub_self]; rfl
  have hplace := ascii_at u (z := s.size) (by omega) (by rw [hgc]; exact hc) u.size 0 (by omega) (Nat.zero_le _)
  have hs : u.extract 0 s.size = s := by
    have : (u.extract 0 s.size).data.toList = s.data.toList := by
      rw [ByteArray.data_extract, Array.toList_extract, List.extract_eq_take_drop, List.drop_zero, Nat.sub_zero, hu, List.take_append_of_le_length (by rw [size_data]; exact Nat.le_refl _), List.take_of_length_le (by rw [size_data]; exact Nat.le_refl _)]
    rw [← bytesOf_data (u.extract 0 s.size), this, bytesOf_data]
  have h1 : runesP s = (runesP u).takeWhile fun x => decide (x.2.1 < s.size) := by
    have := runesP_prefix u (z := s.size) (by omega) (.inr (.inr hplace))
    rw [hs] at this; exact this
  have h2 := split_at_place u (z := s.size) u.size 0 (by omega) hplace
  rw [h1]
  unfold runesP at h2 ⊢
  conv => lhs; rw [h2]
  congr 1
  obtain ⟨k, hk, e⟩ := runesGo_step (s := u) (f := u.size) (a := s.size) (by omega) (by omega)
  have hd : Utf8.decode u s.size = (c.toNat, 1) := by
    rw [Lib.decode_at, hgc]; unfold Lib.decodeN; rw [if_pos hc]
  rw [e, hd]
  simp only
  congr 1
  have := runes_shift u t (s.size + 1) (by omega) (fun k => by
    rw [hget, hu, ← Lib.getD_get!' t, List.getD_eq_getElem?_getD, List.getD_eq_getElem?_getD, List.getElem?_append_right (by rw [size_data]; omega), size_data, show s.size + 1 + k - s.size = k + 1 by omega, List.getElem?_cons_succ]) t.size k 0 (by omega) (by omega)
  rw [Nat.zero_add] at this
  exact this
end Go.Proofs.YthlnfefpdmecaaaGreatDoor

/-
  PLAIN: words: the bounds of a text; a line end parts them. No walk.
-/
namespace Go.Proofs.YthlnfefpdmecaaaGreatDoor

def wCls (g : Int → Nat) (s : ByteArray) : List Int := (runesP s).map fun x => (g x.1 : Int)
def wPick (c : List Int) : Nat → List Nat → List Nat
  | _, [] => []
  | i, a :: r => (if i = 0 ∨ wCut c i = true then [a] else []) ++ wPick c (i + 1) r
/-- The bounds of a text. -/
def wBounds (g : Int → Nat) (s : ByteArray) : List Nat := wPick (wCls g s) 0 ((runesP s).map (·.2.1)) ++ (if s.size = 0 then [] else [s.size])
theorem wCls_len (g : Int → Nat) (s : ByteArray) : (wCls g s).length = (runesP s).length := by simp [wCls]
theorem wPick_append (c : List Int) : ∀ (P Q : List Nat) (i : Nat), wPick c i (P ++ Q) = wPick c i P ++ wPick c (i + P.length) Q
  | [], Q, i => by simp [wPick]
  | a :: P, Q, i => by
    rw [List.cons_append, wPick, wPick, wPick_append c P Q (i + 1), List.append_assoc, List.length_cons, show i + 1 + P.length = i + (P.length + 1) by omega]
theorem wPick_congr {c d : List Int} : ∀ (P : List Nat) (i j : Nat), (∀ k, k < P.length → ((i + k = 0 ∨ wCut c (i + k) = true) ↔ (j + k = 0 ∨ wCut d (j + k) = true))) → wPick c i P = wPick d j P
  | [], _, _, _ => rfl
  | a :: P, i, j, h => by
    have h0 := h 0 (by simp)
    simp only [Nat.add_zero] at h0
    rw [wPick, wPick, wPick_congr P (i + 1) (j + 1) (fun k hk => by
      have := h (k + 1) (by simpa using hk)
      rw [show i + 1 + k = i + (k + 1) by omega, show j + 1 + k = j + (k + 1) by omega]; exact this)]
    congr 1
    by_cases hc : i = 0 ∨ wCut c i = true
    · rw [if_pos hc, if_pos (h0.1 hc)]
    · rw [if_neg hc, if_neg (fun k => hc (h0.2 k))]
theorem wPick_map (c : List Int) (f : Nat → Nat) : ∀ (P : List Nat) (i : Nat), wPick c i (P.map f) = (wPick c i P).map f
  | [], _ => rfl
  | a :: P, i => by
    rw [List.map_cons, wPick, wPick, wPick_map c f P (i + 1), List.map_append]
    congr 1
    split <;> rfl
/-- A line end parts a text: its bounds are those of both sides. -/
theorem wBounds_parts {g : Int → Nat} (h10 : g 10 = 2) (h13 : ∀ r : Nat, r ≤ 1114111 → g r = 1 → r = 13) {s t u : ByteArray} (hu : u.data.toList = s.data.toList ++ 10 :: t.data.toList) (hs : s.data.toList.getLast? ≠ some 13) :
    wBounds g u = (if wBounds g s = [] then [0] else wBounds g s) ++ (if wBounds g t = [] then [s.size + 1] else (wBounds g t).map (· + (s.size + 1))) := by
  have hz : u.size = s.size + 1 + t.size := by rw [← size_data, hu, List.length_append, List.length_cons, size_data, size_data]; omega
  have hr := runes_join s t 10 (by decide) hu
  have hc : wCls g u = wCls g s ++ 2 :: wCls g t := by
    unfold wCls
    rw [hr, List.map_append, List.map_cons, List.map_map]
    congr 1
    congr 1
    show ((g 10 : Nat) : Int) = 2
    rw [h10]; rfl
  have hp : (runesP u).map (·.2.1) = (runesP s).map (·.2.1) ++ s.size :: ((runesP t).map (·.2.1)).map (· + (s.size + 1)) := by
    rw [hr, List.map_append, List.map_cons, List.map_map, List.map_map]; rfl
  have hlast : wCls g s ≠ [] → (wCls g s).getD ((wCls g s).length - 1) 0 ≠ 1 := fun hne k => by
    have hl : 0 < (runesP s).length := by rw [← wCls_len g]; exact List.length_pos_iff.2 hne
    have hlt : (runesP s).length - 1 < (runesP s).length := by omega
    rw [wCls_len, List.getD_eq_getElem?_getD] at k
    unfold wCls at k
    rw [List.getElem?_map, List.getElem?_eq_getElem hlt] at k
    simp only [Option.map_some, Option.getD_some] at k
    have hx := List.getElem_mem hlt
    generalize hxe : (runesP s)[(runesP s).length - 1] = x at k hx
    have hb := runesP_bd x hx
    have h1 : x.1 = 13 := h13 x.1 hb.2.2.2 (by omega)
    have hd := runesGo_dec _ _ x hx
    have hW : x.2.2 - x.2.1 = 1 ∧ (s.get! x.2.1).toNat = 13 := by
      rw [Lib.decode_at, h1] at hd
      generalize x.2.2 - x.2.1 = W at hd
      unfold Lib.decodeN at hd
      repeat' split at hd
      all_goals (injection hd with e1 e2; omega)
    have hend : x.2.2 = s.size := by
      have hcg := runesP_contig s
      have : ∀ (r : List (Nat × Nat × Nat)) (p z : Nat) (hr : 0 < r.length), Contig p r z → (r[r.length - 1]'(by omega)).2.2 = z := by
        intro r
        induction r with
        | nil => intro p z hr; simp at hr
        | cons y r ih =>
          intro p z _ h
          cases r with
          | nil => exact h.2.2
          | cons y2 r => exact ih _ _ (by simp) h.2.2
      rw [← this _ _ _ hl hcg, hxe]
    refine hs ?_
    rw [List.getLast?_eq_getElem?, size_data]
    have hi : s.size - 1 = x.2.1 := by omega
    have hlt2 : x.2.1 < s.data.toList.length := by rw [size_data]; omega
    have h13' : s.data.toList.getD x.2.1 0 = s.get! x.2.1 := Lib.getD_get!' s _
    rw [List.getD_eq_getElem?_getD, List.getElem?_eq_getElem hlt2, Option.getD_some] at h13'
    rw [hi, List.getElem?_eq_getElem hlt2, h13']
    congr 1
    exact UInt8.toNat_inj.1 hW.2
  unfold wBounds
  rw [hp, hc]
  generalize hA : wCls g s = A at hlast
  generalize hB : wCls g t = B
  have lA : A.length = (runesP s).length := by rw [← hA, wCls_len]
  have lB : B.length = (runesP t).length := by rw [← hB, wCls_len]
  have e1 : wPick (A ++ 2 :: B) 0 ((runesP s).map (·.2.1)) = wPick A 0 ((runesP s).map (·.2.1)) := wPick_congr _ 0 0 fun k hk => by
    rw [List.length_map] at hk
    rw [Nat.zero_add, cut_left (by omega)]
  have e2 : wPick (A ++ 2 :: B) (0 + ((runesP s).map (·.2.1)).length) (s.size :: ((runesP t).map (·.2.1)).map (· + (s.size + 1))) = s.size :: (wPick B 0 ((runesP t).map (·.2.1))).map (· + (s.size + 1)) := by
    rw [Nat.zero_add, List.length_map, ← lA, wPick, if_pos, ← wPick_map]
    · rw [List.singleton_append]
      congr 1
      refine wPick_congr _ _ _ fun k hk => ?_
      rw [List.length_map, List.length_map, ← lB] at hk
      cases k with
      | zero => simp [cut_behind]
      | succ k => rw [cut_right (by omega), Nat.zero_add]; simp
    · by_cases hne : A = []
      · exact .inl (by rw [hne]; rfl)
      · exact .inr (cut_mid (hlast hne) hne)
  rw [wPick_append, e1, e2, if_neg (by omega)]
  have hsz : ∀ v : ByteArray, v.size = 0 → runesP v = [] := fun v hv => by unfold runesP; rw [hv]; rfl
  have q1 : (if wPick A 0 ((runesP s).map (·.2.1)) ++ (if s.size = 0 then [] else [s.size]) = [] then [0] else wPick A 0 ((runesP s).map (·.2.1)) ++ (if s.size = 0 then [] else [s.size])) = wPick A 0 ((runesP s).map (·.2.1)) ++ [s.size] := by
    by_cases h0 : s.size = 0
    · rw [hsz s h0, h0]; simp [wPick]
    · rw [if_neg h0, if_neg (by simp)]
  have q2 : (if wPick B 0 ((runesP t).map (·.2.1)) ++ (if t.size = 0 then [] else [t.size]) = [] then [s.size + 1] else (wPick B 0 ((runesP t).map (·.2.1)) ++ (if t.size = 0 then [] else [t.size])).map (· + (s.size + 1))) = (wPick B 0 ((runesP t).map (·.2.1))).map (· + (s.size + 1)) ++ [u.size] := by
    by_cases h0 : t.size = 0
    · rw [hsz t h0, h0, hz, h0]; simp [wPick]
    · rw [if_neg h0, if_neg (by simp), List.map_append, hz]
      simp; omega
  rw [q1, q2]
  simp
end Go.Proofs.YthlnfefpdmecaaaGreatDoor

/-
  slices.Contains of numbers, walked. Printed by gen_kkind.py.
-/
namespace Go.Proofs.YthlnfefpdmecaaaGreatDoor
open Go.RowKit

/-- None of the first j. -/
def NoneTo (p : Int → Bool) (l : List Int) (j : Nat) : Prop := ∀ k x, k < j → l[k]? = some x → p x = false
theorem noneTo_first (p : Int → Bool) (l : List Int) : NoneTo p l 0 := fun k x hk => by omega
theorem noneTo_next {p : Int → Bool} {l : List Int} {j : Nat} {x : Int} (h : NoneTo p l j) (hx : l[j]? = some x) (hp : p x = false) : NoneTo p l (j + 1) := fun k y hk hy => by
  rcases (by omega : k < j ∨ k = j) with h1 | rfl
  · exact h k y h1 hy
  · rw [hx] at hy; injection hy with hy; rw [← hy]; exact hp
theorem noneTo_end {p : Int → Bool} {l : List Int} {j : Nat} (h : NoneTo p l j) (hj : ¬ j < l.length) : l.any p = false := by
  rw [List.any_eq_false]
  intro x hx
  obtain ⟨k, hk, e⟩ := List.getElem_of_mem hx
  rw [h k x (by omega) (by rw [List.getElem?_eq_getElem hk, e])]
  simp
theorem any_here {p : Int → Bool} {l : List Int} {j : Nat} {x : Int} (hx : l[j]? = some x) (hp : p x = true) : l.any p = true := List.any_eq_true.2 ⟨x, List.mem_of_getElem? hx, hp⟩
theorem ge_nat (j : Nat) : decide (0 ≤ (j : Int)) = true := decide_eq_true (by omega)

set_option maxRecDepth 100000 in
set_option maxHeartbeats 2000000 in
theorem lIndexI_any (A : Option Addr) (n c : Nat) (l : List Int) (x : Int) (w : World) (hA : Rd w 1 A (l.map encZ)) (hl : l.length = n) (hn : n ≤ 4000000) :
    Calls Tryz.prog 117 #[.slice A n c, .int .i64 x] w fun e w' => ∃ v : Int, e = .returned (.int .i64 v) ∧ decide (0 ≤ v) = l.any (x == ·) ∧ w = w' := by
  have Hl := Lib.hid hl
  clear hl
  go_enter Tryz.func117, Tryz.ntmps117
  go_wp2
  go_loopw [8] (fun v wr => ∃ j : Nat, v = .int .i64 j ∧ j ≤ n ∧ Hid (NoneTo (x == ·) l j) ∧ wr = w) (fun v _ => n - (intOf v).toNat)
  case atStart => exact ⟨0, rfl, by omega, Lib.hid (noneTo_first _ l), rfl⟩
  case round =>
    obtain ⟨j, rfl, hj, HN, rfl⟩ := hrel
    by_cases hlt : j < n
    · obtain ⟨y, Hy⟩ : ∃ y, Hid (l[j]? = some y) := ⟨_, Lib.hid (List.getElem?_eq_getElem (by have := Hl.out; omega))⟩
      obtain ⟨b, off, rfl, hc⟩ := hA.atZ Hy.out
      obtain ⟨q, Hq⟩ : ∃ q, Hid ((x == ·) y = q) := ⟨_, Lib.hid rfl⟩
      cases q with
      | true =>
        have HV := Lib.hid (any_here Hy.out Hq.out)
        have he := Hq.out
        go_wp2
        go_ret
        exact ⟨j, rfl, by rw [HV.out]; exact ge_nat j, rfl⟩
      | false =>
        have HN' := Lib.hid (noneTo_next HN.out Hy.out Hq.out)
        have he := Hq.out
        go_wp2
        go_roundw
        case rel => exact ⟨j + 1, by go_num, by omega, HN', trivial⟩
        case measure => simp [intOf]; omega
    · have HV := Lib.hid (noneTo_end HN.out (by rw [Hl.out]; exact hlt))
      go_wp2
      go_ret
      exact ⟨-1, rfl, by rw [HV.out]; rfl, rfl⟩
set_option maxHeartbeats 1000000 in
theorem lContains_any (A : Option Addr) (n c : Nat) (l : List Int) (x : Int) (w : World) (hA : Rd w 1 A (l.map encZ)) (hl : l.length = n) (hn : n ≤ 4000000) :
    Calls Tryz.prog 75 #[.slice A n c, .int .i64 x] w fun e w' => e = .returned (.bool (l.any (x == ·))) ∧ w = w' := by
  have HI := Lib.hid (lIndexI_any A n c l x w hA hl hn)
  clear hA hl
  go_enter Tryz.func75, Tryz.ntmps75
  go_wp2_with fail
  refine HI.out.mono ?_
  rintro e w1 ⟨v, rfl, hv, rfl⟩
  have HV := Lib.hid hv
  clear hv HI
  go_wp2
  go_ret
  exact ⟨by rw [← HV.out]; rfl, rfl⟩
end Go.Proofs.YthlnfefpdmecaaaGreatDoor

/-
  PLAIN: lines: where a line may end by the classes of its runes; places that are never chances. No walk.
-/
namespace Go.Proofs.YthlnfefpdmecaaaGreatDoor

/-- How many runes stand ahead when those of a class at the end are passed over. -/
def lPast (c : List Int) (k : Int) : Nat → Nat
  | 0 => 0
  | n + 1 => if c.getD n 0 = k then lPast c k n else n + 1
def lLast (c : List Int) (n : Nat) : Int := if n = 0 then -1 else c.getD (n - 1) 0
def lRegGo (c : List Int) : Nat → Nat → Nat
  | 0, _ => 0
  | f + 1, n => if lLast c n = 25 then lRegGo c f (lPast c 8 (n - 1)) + 1 else 0
def lReg (c : List Int) (n : Nat) : Nat := lRegGo c (n + 1) (lPast c 8 n)
def lNum (c : List Int) (n : Nat) : Bool :=
  let n1 := lPast c 8 n
  let n2 := if [11, 10].contains (lLast c n1) then lPast c 8 (n1 - 1) else n1
  let n3 := if [14, 15].contains (lLast c n2) then lPast c 8 (n2 - 1) else n2
  lLast c n3 == 20
def lPairs (b q : Int) : Bool :=
  (b == 0 && [20, 22, 21, 0, 9].contains q || b == 20 && [0, 9, 20].contains q || b == 22 && [23, 0].contains q) ||
  (b == 23 && q == 21 || b == 21 && q == 0 || [16, 14, 15].contains b && q == 20 || b == 14 && q == 0) ||
  (b == 10 && [0, 20].contains q)
def lLetters (c : List Int) (i : Nat) (b q : Int) : Bool :=
  ([12, 17, 16, 24, 19].contains q || b == 12 || lPairs b q) || ([21, 22].contains q && lNum c i) ||
  ([21, 22].contains b && (q == 20 || [9, 16].contains q && decide (i + 1 < c.length) && c.getD (i + 1) 0 == 20)) ||
  (q == 25 && lReg c i % 2 == 1)
def lGlued (p b q : Int) : Bool :=
  (q == 8 && !([1, 2, 3, 4, 5].contains p) || q == 6 || b == 6 || b == 7) || (q == 7 && !([4, 17, 16].contains b) || [11, 10, 13, 14, 15].contains q)
def lOver (c : List Int) (i : Nat) (q : Int) : Bool :=
  let a := lLast c (lPast c 8 (lPast c 4 i))
  a == 9 || a == 12 && q == 9 || [11, 10].contains a && q == 24 || a == 18 && q == 18
def lMust (c : Int) : Bool := [1, 2, 3].contains c
/-- May a line end ahead of a rune that is not the first? -/
def lCut (c : List Int) (i : Nat) : Bool :=
  let p := c.getD (i - 1) 0
  let q := c.getD i 0
  let b := lLast c (lPast c 8 i)
  if p = 2 ∧ q = 3 then false
  else if lMust p then true
  else if [1, 2, 3, 4, 5].contains q then false
  else if lLast c (lPast c 4 i) = 5 then true
  else if lGlued p b q || lOver c i q then false
  else if p = 4 then true
  else !lLetters c i b q
theorem lMust_iff (c : Int) : lMust c = true ↔ c = 1 ∨ c = 2 ∨ c = 3 := by simp [lMust]
theorem lPast_le (c : List Int) (k : Int) : ∀ n, lPast c k n ≤ n
  | 0 => Nat.le_refl _
  | n + 1 => by
    have := lPast_le c k n
    unfold lPast; split <;> omega
theorem lPast_here {c : List Int} {k : Int} {i : Nat} (h : c.getD i 0 ≠ k) : lPast c k (i + 1) = i + 1 := by unfold lPast; rw [if_neg h]
theorem lPast_on {c : List Int} {k : Int} {i : Nat} (h : c.getD i 0 = k) : lPast c k (i + 1) = lPast c k i := by
  conv => lhs; unfold lPast
  rw [if_pos h]
theorem lLast_succ (c : List Int) (i : Nat) : lLast c (i + 1) = c.getD i 0 := by unfold lLast; rw [if_neg (by omega), Nat.add_sub_cancel]
/-- Where a line must end. -/
theorem lCut_end {c : List Int} {i : Nat} (h : lMust (c.getD i 0) = true) : lCut c (i + 1) = !decide (c.getD i 0 = 2 ∧ c.getD (i + 1) 0 = 3) := by
  unfold lCut
  dsimp only
  rw [show i + 1 - 1 = i from rfl]
  by_cases h23 : c.getD i 0 = 2 ∧ c.getD (i + 1) 0 = 3
  · rw [if_pos h23, decide_eq_true h23]; rfl
  · rw [if_neg h23, decide_eq_false h23, if_pos h]; rfl
theorem lCut_blank {c : List Int} {i : Nat} (h : lMust (c.getD i 0) = false) (hq : [1, 2, 3, 4, 5].contains (c.getD (i + 1) 0) = true) : lCut c (i + 1) = false := by
  unfold lCut
  dsimp only
  rw [show i + 1 - 1 = i from rfl, h, hq]
  split <;> simp
/-- Whether a break stands ahead of the blanks. -/
def lZw (c : List Int) (n : Nat) : Bool := lLast c (lPast c 4 n) == 5
theorem lZw_step (c : List Int) (i : Nat) : lZw c (i + 1) = if c.getD i 0 = 5 then true else if c.getD i 0 ≠ 4 then false else lZw c i := by
  unfold lZw
  by_cases h4 : c.getD i 0 = 4
  · rw [lPast_on h4, if_neg (by omega), if_neg (by omega)]
  · rw [lPast_here h4, lLast_succ]
    by_cases h5 : c.getD i 0 = 5
    · rw [if_pos h5, h5]; rfl
    · rw [if_neg h5, if_pos h4]; exact beq_eq_false_iff_ne.2 h5
theorem lCut_glue {c : List Int} {i : Nat} (h : lMust (c.getD i 0) = false) (hz : lZw c (i + 1) = false) (hg : lGlued (c.getD i 0) (lLast c (lPast c 8 (i + 1))) (c.getD (i + 1) 0) = true) : lCut c (i + 1) = false := by
  unfold lCut
  dsimp only
  rw [show i + 1 - 1 = i from rfl, h, hg]
  have hz' : ¬ lLast c (lPast c 4 (i + 1)) = 5 := fun e => by unfold lZw at hz; rw [e] at hz; cases hz
  rw [if_neg hz']
  simp
theorem lCut_pair {c : List Int} {i : Nat} (h : lMust (c.getD i 0) = false) (hz : lZw c (i + 1) = false) (h4 : c.getD i 0 ≠ 4) (h8 : c.getD i 0 ≠ 8) (hg : lPairs (c.getD i 0) (c.getD (i + 1) 0) = true) : lCut c (i + 1) = false := by
  unfold lCut
  dsimp only
  have hz' : ¬ lLast c (lPast c 4 (i + 1)) = 5 := fun e => by unfold lZw at hz; rw [e] at hz; cases hz
  have hb : lLast c (lPast c 8 (i + 1)) = c.getD i 0 := by rw [lPast_here h8, lLast_succ]
  rw [show i + 1 - 1 = i from rfl, h, if_neg hz', hb, if_neg h4]
  have : lLetters c (i + 1) (c.getD i 0) (c.getD (i + 1) 0) = true := by unfold lLetters; rw [hg]; simp
  rw [this]
  simp
/-- Ahead of what closes. -/
theorem lNever_close {c : List Int} {i : Nat} (h : lMust (c.getD i 0) = false) (hz : lZw c (i + 1) = false) (hq : c.getD (i + 1) 0 = 6 ∨ c.getD (i + 1) 0 = 11 ∨ c.getD (i + 1) 0 = 10 ∨ c.getD (i + 1) 0 = 13 ∨ c.getD (i + 1) 0 = 14 ∨ c.getD (i + 1) 0 = 15) : lCut c (i + 1) = false := by
  refine lCut_glue h hz ?_
  unfold lGlued
  rcases hq with hq | hq | hq | hq | hq | hq <;> (rw [hq]; simp)
/-- Behind what glues. -/
theorem lNever_glue {c : List Int} {i : Nat} (hp : c.getD i 0 = 7 ∨ c.getD i 0 = 6) : lCut c (i + 1) = false := by
  have h : lMust (c.getD i 0) = false := by rcases hp with hp | hp <;> rw [hp] <;> rfl
  have hz : lZw c (i + 1) = false := by rw [lZw_step, if_neg (by omega), if_pos (by omega)]
  refine lCut_glue h hz ?_
  rw [lPast_here (by omega), lLast_succ]
  unfold lGlued
  rcases hp with hp | hp <;> (rw [hp]; simp)
/-- Between letters, between letters and digits. -/
theorem lNever_letters {c : List Int} {i : Nat} (h : c.getD i 0 = 0 ∧ (c.getD (i + 1) 0 = 0 ∨ c.getD (i + 1) 0 = 20 ∨ c.getD (i + 1) 0 = 7 ∨ c.getD (i + 1) 0 = 6) ∨ c.getD i 0 = 20 ∧ (c.getD (i + 1) 0 = 0 ∨ c.getD (i + 1) 0 = 20)) : lCut c (i + 1) = false := by
  have hm : lMust (c.getD i 0) = false := by rcases h with ⟨h, _⟩ | ⟨h, _⟩ <;> rw [h] <;> rfl
  have hz : lZw c (i + 1) = false := by rw [lZw_step, if_neg (by omega), if_pos (by omega)]
  by_cases hg : c.getD (i + 1) 0 = 7 ∨ c.getD (i + 1) 0 = 6
  · refine lCut_glue hm hz ?_
    rw [lPast_here (by omega), lLast_succ]
    unfold lGlued
    have h0 : c.getD i 0 = 0 := by omega
    rcases hg with hg | hg <;> (rw [hg, h0]; simp)
  · refine lCut_pair hm hz (by omega) (by omega) ?_
    unfold lPairs
    rcases h with ⟨h1, h2 | h2 | h2 | h2⟩ | ⟨h1, h2 | h2⟩
    · rw [h1, h2]; rfl
    · rw [h1, h2]; rfl
    · omega
    · omega
    · rw [h1, h2]; rfl
    · rw [h1, h2]; rfl
end Go.Proofs.YthlnfefpdmecaaaGreatDoor

/-
  line: among; past, last, regions, number: walked.
-/
namespace Go.Proofs.YthlnfefpdmecaaaGreatDoor
open Go.RowKit

theorem bAl {a w : World} (h : Below a.heap.size a w) (o : Obj) : Below a.heap.size a (w.alloc o) := h.alloc h.size o
theorem Rd.lits (W : World) (t : TypeId) (xs : List Int) : Rd (W.alloc (.cells (xs.map (Value.int .i64)).toArray t)) 1 (some ⟨W.heap.size, 0, none⟩) (xs.map encZ) := fun _ =>
  ⟨W.heap.size, 0, rfl, fun k j x u hx hu => by
    have hb := (Blk.new W t (xs.map (Value.int .i64)).toArray).cell (0 + k * 1 + j)
    rw [hb]
    rw [List.getElem?_map] at hx
    cases hq : xs[k]? with
    | none => rw [hq] at hx; cases hx
    | some y =>
      rw [hq] at hx
      simp at hx
      subst hx
      match j, hu with
      | 0, hu => simp [encZ] at hu; subst hu; simp [hq]
      | j + 1, hu => simp [encZ] at hu⟩
set_option maxHeartbeats 1000000 in
theorem tamong_lit (c : Int) (xs : List Int) (n : Nat) (W : World) (arr : Array Value) (harr : arr = (xs.map (Value.int .i64)).toArray) (hn : xs.length = n) (hz : n ≤ 10) :
    Calls Tryz.prog 162 #[.int .i64 c, .slice (some ⟨W.heap.size, 0, none⟩) n n] (W.alloc (.cells arr 3)) fun e w' => e = .returned (.bool (xs.contains c)) ∧ W.alloc (.cells arr 3) = w' := by
  subst harr
  have HC := Lib.hid (lContains_any (some ⟨W.heap.size, 0, none⟩) n n xs c _ (Rd.lits W 3 xs) hn (by omega))
  rw [show (xs.any fun x => c == x) = xs.contains c from (List.contains_eq_any_beq).symm] at HC
  generalize W.alloc (.cells (xs.map (Value.int .i64)).toArray 3) = W1 at HC
  generalize xs.contains c = r at HC
  go_enter Tryz.func162, Tryz.ntmps162
  go_wp2_with (go_at_call 75; refine HC.out.mono ?_; rintro e w' ⟨rfl, rfl⟩)
  go_ret
  exact ⟨rfl, rfl⟩

set_option maxRecDepth 100000 in
set_option maxHeartbeats 2000000 in
theorem tpast_any (A B : Option Addr) (na ca n cb : Nat) (c : List Int) (i : Nat) (k : Int) (w : World) (hB : Rd w 1 B (c.map encZ)) (hl : c.length = n) (hi : i ≤ n) (hn : n ≤ 4000000) :
    Calls Tryz.prog 161 #[.agg #[.slice A na ca, .slice B n cb], .int .i64 i, .int .i64 k] w fun e w' => e = .returned (.int .i64 (lPast c k i : Nat)) ∧ Below w.heap.size w w' := by
  have Hl := Lib.hid hl
  clear hl
  have hBz : Below w.heap.size w (w.alloc (.cells #[.slice A na ca, .slice B n cb] 122)) := (Below.refl _ _).alloc (Nat.le_refl _) _
  have hK := Blk.new w 122 #[.slice A na ca, .slice B n cb]
  have k1 := hK.cell 1
  simp only [List.getElem?_toArray, List.getElem?_cons_zero, List.getElem?_cons_succ] at k1
  go_enter Tryz.func161, Tryz.ntmps161
  go_wp2
  go_loopw [1] (fun v wr => ∃ j : Nat, v = .int .i64 j ∧ j ≤ i ∧ Hid (lPast c k j = lPast c k i) ∧ wr = w.alloc (.cells #[.slice A na ca, .slice B n cb] 122)) (fun v _ => (intOf v).toNat)
  case atStart => exact ⟨i, rfl, Nat.le_refl _, Lib.hid rfl, rfl⟩
  case round =>
    obtain ⟨j, rfl, hj, HW, rfl⟩ := hrel
    by_cases h0 : 0 < j
    · obtain ⟨j, rfl⟩ : ∃ m, j = m + 1 := ⟨j - 1, by omega⟩
      obtain ⟨x, Hx⟩ : ∃ x, Hid (c[j]? = some x) := ⟨_, Lib.hid (List.getElem?_eq_getElem (by have := Hl.out; omega))⟩
      obtain ⟨b, off, rfl, hc⟩ := hB.atZ Hx.out
      have hc := cell_keep hc hBz
      have e1 : ((j + 1 : Nat) : Int) - 1 = (j : Int) := by omega
      have HS : Hid (lPast c k (j + 1) = if x = k then lPast c k j else j + 1) := Lib.hid (by rw [lPast, getD_of Hx.out])
      obtain ⟨q, hq⟩ : ∃ q, (x == k) = q := ⟨_, rfl⟩
      cases q with
      | true =>
        have HW' : Hid (lPast c k j = lPast c k i) := Lib.hid (by rw [← HW.out, HS.out, if_pos (beq_iff_eq.1 hq)])
        go_wp2
        go_roundw
        case rel => exact ⟨j, by go_num, by omega, HW', trivial⟩
        case measure => simp [intOf]
      | false =>
        have HV : Hid (lPast c k i = j + 1) := Lib.hid (by rw [← HW.out, HS.out, if_neg (beq_eq_false_iff_ne.1 hq)])
        go_wp2
        go_ret
        exact ⟨by rw [HV.out]; rfl, hBz⟩
    · have HV : Hid (lPast c k i = j) := Lib.hid (by rw [← HW.out, show j = 0 by omega]; rfl)
      have h1 : ¬ (0 : Int) < (j : Int) := by omega
      go_wp2
      go_ret
      exact ⟨by rw [HV.out]; rfl, hBz⟩

set_option maxRecDepth 100000 in
set_option maxHeartbeats 1000000 in
theorem tlast_any (A B : Option Addr) (na ca n cb : Nat) (c : List Int) (i : Nat) (w : World) (hB : Rd w 1 B (c.map encZ)) (hl : c.length = n) (hi : i ≤ n) (hn : n ≤ 4000000) :
    Calls Tryz.prog 160 #[.agg #[.slice A na ca, .slice B n cb], .int .i64 i] w fun e w' => e = .returned (.int .i64 (lLast c i)) ∧ Below w.heap.size w w' := by
  have hBz : Below w.heap.size w (w.alloc (.cells #[.slice A na ca, .slice B n cb] 122)) := (Below.refl _ _).alloc (Nat.le_refl _) _
  have hK := Blk.new w 122 #[.slice A na ca, .slice B n cb]
  have k1 := hK.cell 1
  simp only [List.getElem?_toArray, List.getElem?_cons_zero, List.getElem?_cons_succ] at k1
  by_cases h : i = 0
  · have HV : Hid (lLast c i = -1) := Lib.hid (by unfold lLast; rw [if_pos h])
    have e0 : ((i : Int) == 0) = true := by rw [h]; rfl
    clear h
    go_enter Tryz.func160, Tryz.ntmps160
    go_wp2
    go_ret
    exact ⟨by rw [HV.out]; rfl, hBz⟩
  · obtain ⟨j, rfl⟩ : ∃ m, i = m + 1 := ⟨i - 1, by omega⟩
    obtain ⟨x, Hx⟩ : ∃ x, Hid (c[j]? = some x) := ⟨_, Lib.hid (List.getElem?_eq_getElem (by omega))⟩
    obtain ⟨b, off, rfl, hc⟩ := hB.atZ Hx.out
    have hc := cell_keep hc hBz
    have HV : Hid (lLast c (j + 1) = x) := Lib.hid (by rw [lLast_succ, getD_of Hx.out])
    have e1 : ((j + 1 : Nat) : Int) - 1 = (j : Int) := by omega
    have e0 : (((j + 1 : Nat) : Int) == 0) = false := beq_eq_false_iff_ne.2 (by omega)
    have e2 : ((j : Int) + 1 == 0) = false := beq_eq_false_iff_ne.2 (by omega)
    clear h hl
    go_enter Tryz.func160, Tryz.ntmps160
    go_wp2
    go_ret
    exact ⟨by rw [HV.out]; rfl, hBz⟩

/-- How far the count of regions has come. -/
def LegAt (c : List Int) (i k m : Nat) : Prop := m ≤ i ∧ k + m ≤ i ∧ ∃ f, m < f ∧ k + lRegGo c f m = lReg c i
theorem legAt_first (c : List Int) (i : Nat) : LegAt c i 0 (lPast c 8 i) := ⟨lPast_le c 8 i, by have := lPast_le c 8 i; omega, i + 1, by have := lPast_le c 8 i; omega, by rw [Nat.zero_add]; rfl⟩
theorem lLast_pos {c : List Int} {m : Nat} {x : Int} (h : lLast c m = x) (hx : 0 ≤ x) : 0 < m := by
  rcases Nat.eq_zero_or_pos m with rfl | h0
  · unfold lLast at h; rw [if_pos rfl] at h; omega
  · exact h0
theorem legAt_next {c : List Int} {i k m : Nat} (h : LegAt c i k m) (h7 : lLast c m = 25) : LegAt c i (k + 1) (lPast c 8 (m - 1)) := by
  obtain ⟨h1, h2, f, hf, hk⟩ := h
  have h0 := lLast_pos h7 (by omega)
  have hp := lPast_le c 8 (m - 1)
  cases f with
  | zero => omega
  | succ f =>
    rw [lRegGo, if_pos h7] at hk
    exact ⟨by omega, by omega, f, by omega, by omega⟩
theorem legAt_end {c : List Int} {i k m : Nat} (h : LegAt c i k m) (h7 : lLast c m ≠ 25) : k = lReg c i := by
  obtain ⟨h1, h2, f, hf, hk⟩ := h
  cases f with
  | zero => omega
  | succ f => rw [lRegGo, if_neg h7] at hk; omega

set_option maxRecDepth 100000 in
set_option maxHeartbeats 2000000 in
theorem tregions_any (A B : Option Addr) (na ca n cb : Nat) (c : List Int) (i : Nat) (w : World) (hB : Rd w 1 B (c.map encZ)) (hl : c.length = n) (hi : i ≤ n) (hn : n ≤ 3000000) :
    Calls Tryz.prog 195 #[.agg #[.slice A na ca, .slice B n cb], .int .i64 i] w fun e w' => e = .returned (.int .i64 (lReg c i : Nat)) ∧ Below w.heap.size w w' := by
  have Hl := Lib.hid hl
  clear hl
  have hBz : Below w.heap.size w (w.alloc (.cells #[.slice A na ca, .slice B n cb] 122)) := (Below.refl _ _).alloc (Nat.le_refl _) _
  have hK := Blk.new w 122 #[.slice A na ca, .slice B n cb]
  have HLs := Lib.hid (fun (j : Nat) W (h : Below w.heap.size w W) (hj : j ≤ n) => tlast_any A B na ca n cb c j W (hB.below h) Hl.out hj (by omega))
  have HPs := Lib.hid (fun (j : Nat) W (h : Below w.heap.size w W) (hj : j ≤ n) => tpast_any A B na ca n cb c j 8 W (hB.below h) Hl.out hj (by omega))
  have HR0 := Lib.hid (legAt_first c i)
  have k0 := hK.cell 0
  have k1 := hK.cell 1
  simp only [List.getElem?_toArray, List.getElem?_cons_zero, List.getElem?_cons_succ] at k0 k1
  go_enter Tryz.func195, Tryz.ntmps195
  go_wp2_with fail
  refine (HPs.out i _ hBz hi).mono ?_
  generalize lPast c 8 i = x0 at HR0
  rintro e w1 ⟨rfl, hb1⟩
  replace k0 := cell_keep k0 hb1
  replace k1 := cell_keep k1 hb1
  have hB1 := hBz.trans (hb1.mono hBz.size)
  clear hBz hb1
  go_wp2_with fail
  go_loopw [1, 5] (fun u v wr => ∃ m k : Nat, u = .int .i64 m ∧ v = .int .i64 k ∧ Hid (LegAt c i k m) ∧ Below w.heap.size w wr ∧ wr.cell? ⟨w.heap.size, 0, none⟩ = some (.slice A na ca) ∧ wr.cell? ⟨w.heap.size, 1, none⟩ = some (.slice B n cb)) (fun u _ _ => (intOf u).toNat)
  case atStart => exact ⟨_, 0, rfl, rfl, HR0, hB1, k0, k1⟩
  case round =>
    clear k0 k1 hB1
    obtain ⟨m, k, rfl, rfl, HR, hb, k0, k1⟩ := hrel
    have hx1 := HR.out.1
    have hx2 := HR.out.2.1
    have HOx := Lib.hid (HLs.out m wr hb (by omega))
    by_cases h7 : lLast c m = 25
    · rw [h7] at HOx
      have HR' := Lib.hid (legAt_next HR.out h7)
      have hm0 := lLast_pos h7 (by omega)
      have hlt := lPast_le c 8 (m - 1)
      clear h7 HR
      obtain ⟨m, rfl⟩ : ∃ r, m = r + 1 := ⟨m - 1, by omega⟩
      rw [Nat.add_sub_cancel] at HR' hlt
      have e1 : ((m + 1 : Nat) : Int) - 1 = (m : Int) := by omega
      go_wp2_with fail
      refine HOx.out.mono ?_
      rintro e w2 ⟨rfl, hb2⟩
      replace k0 := cell_keep k0 hb2
      replace k1 := cell_keep k1 hb2
      have hbb := below_step hb hb2 hb.size
      have hx3 := HR'.out.2.1
      go_wp2_with fail
      refine (HPs.out m w2 hbb (by omega)).mono ?_
      generalize lPast c 8 m = y at HR' hlt hx3
      rintro e w3 ⟨rfl, hb3⟩
      replace k0 := cell_keep k0 hb3
      replace k1 := cell_keep k1 hb3
      have hbc := below_step hbb hb3 hbb.size
      go_wp2
      go_roundw
      case rel => exact ⟨y, k + 1, rfl, by go_num, HR', hbc, k0, k1⟩
      case measure => simp [intOf]; omega
    · have HV : Hid (k = lReg c i) := Lib.hid (legAt_end HR.out h7)
      have e7 : (lLast c m == 25) = false := beq_eq_false_iff_ne.2 h7
      clear h7
      generalize lLast c m = y at HOx e7
      go_wp2_with fail
      refine HOx.out.mono ?_
      rintro e w2 ⟨rfl, hb2⟩
      go_wp2
      go_ret
      exact ⟨by rw [HV.out]; rfl, below_step hb hb2 hb.size⟩
end Go.Proofs.YthlnfefpdmecaaaGreatDoor

/-
  line: number, pairs, letters, glued, over, cut, walked: a cut around each test. Printed by gen_tcut.py.
-/
namespace Go.Proofs.YthlnfefpdmecaaaGreatDoor
open Go.RowKit

theorem tamong_b (c : Int) (xs : List Int) (n : Nat) (W : World) (arr : Array Value) (harr : arr = (xs.map (Value.int .i64)).toArray) (hn : xs.length = n) (hz : n ≤ 10) :
    Calls Tryz.prog 162 #[.int .i64 c, .slice (some ⟨W.heap.size, 0, none⟩) n n] (W.alloc (.cells arr 3)) fun e w' => e = .returned (.bool (xs.contains c)) ∧ Below W.heap.size W w' :=
  (tamong_lit c xs n W arr harr hn hz).mono (by rintro e w' ⟨h1, h2⟩; exact ⟨h1, by rw [← h2]; exact (Below.refl _ _).alloc (Nat.le_refl _) _⟩)
set_option maxHeartbeats 1000000 in
theorem tmust_any (c : Int) (w : World) : Calls Tryz.prog 130 #[.int .i64 c] w fun e w' => e = .returned (.bool (lMust c)) ∧ Below w.heap.size w w' := by
  obtain ⟨r, Hr⟩ : ∃ r, Hid (lMust c = r) := ⟨_, Lib.hid rfl⟩
  have h1 : [1, 2, 3].contains c = r := Hr.out
  rw [Hr.out]
  go_enter Tryz.func130, Tryz.ntmps130
  go_wp2_with fail
  refine (tamong_b _ [1, 2, 3] 3 _ _ rfl rfl (by decide)).mono ?_
  rw [h1]
  rintro e wn ⟨rfl, hz⟩
  go_wp2
  go_ret
  exact ⟨rfl, hz⟩

end Go.Proofs.YthlnfefpdmecaaaGreatDoor

/-
  line: number, walked. Printed by gen_tcut.py.
-/
namespace Go.Proofs.YthlnfefpdmecaaaGreatDoor
open Go.RowKit

set_option maxRecDepth 100000 in
set_option maxHeartbeats 8000000 in
theorem tnumber_any (A B : Option Addr) (na ca n cb : Nat) (c : List Int) (i : Nat) (w : World) (hB : Rd w 1 B (c.map encZ)) (hl : c.length = n) (hi : i ≤ n) (hn : n ≤ 3000000) :
    Calls Tryz.prog 194 #[.agg #[.slice A na ca, .slice B n cb], .int .i64 i] w fun e w' => e = .returned (.bool (lNum c i)) ∧ Below w.heap.size w w' := by
  have hBz : Below w.heap.size w (w.alloc (.cells #[.slice A na ca, .slice B n cb] 122)) := (Below.refl _ _).alloc (Nat.le_refl _) _
  have hK := Blk.new w 122 #[.slice A na ca, .slice B n cb]
  have k0 := hK.cell 0
  have k1 := hK.cell 1
  simp only [List.getElem?_toArray, List.getElem?_cons_zero, List.getElem?_cons_succ] at k0 k1
  have HLs := Lib.hid (fun (j : Nat) W (h : Below w.heap.size w W) (hj : j ≤ n) => tlast_any A B na ca n cb c j W (hB.below h) hl hj (by omega))
  have HPs := Lib.hid (fun (j : Nat) (k : Int) W (h : Below w.heap.size w W) (hj : j ≤ n) => tpast_any A B na ca n cb c j k W (hB.below h) hl hj (by omega))
  obtain ⟨n1, H1⟩ : ∃ x, Hid (lPast c 8 i = x) := ⟨_, Lib.hid rfl⟩
  have g1 : n1 ≤ i := by have := lPast_le c 8 i; have := H1.out; omega
  obtain ⟨y1, Y1⟩ : ∃ x, Hid (lLast c n1 = x) := ⟨_, Lib.hid rfl⟩
  obtain ⟨n2, H2⟩ : ∃ x, Hid ((if [11, 10].contains y1 then lPast c 8 (n1 - 1) else n1) = x) := ⟨_, Lib.hid rfl⟩
  obtain ⟨y2, Y2⟩ : ∃ x, Hid (lLast c n2 = x) := ⟨_, Lib.hid rfl⟩
  obtain ⟨n3, H3⟩ : ∃ x, Hid ((if [14, 15].contains y2 then lPast c 8 (n2 - 1) else n2) = x) := ⟨_, Lib.hid rfl⟩
  obtain ⟨y3, Y3⟩ : ∃ x, Hid (lLast c n3 = x) := ⟨_, Lib.hid rfl⟩
  have HW : Hid (lNum c i = (y3 == 20)) := Lib.hid (by
    rw [← Y3.out, ← H3.out, ← Y2.out, ← H2.out, ← Y1.out, ← H1.out]; rfl)
  have g2 : n2 ≤ n1 := by
    rw [← H2.out]
    have := lPast_le c 8 (n1 - 1)
    split
    · omega
    · omega
  have g3 : n3 ≤ n2 := by
    rw [← H3.out]
    have := lPast_le c 8 (n2 - 1)
    split
    · omega
    · omega
  have P1 : Hid ([11, 10].contains y1 = true → 0 < n1) := Lib.hid (fun h => lLast_pos Y1.out (by simp at h; omega))
  have P2 : Hid ([14, 15].contains y2 = true → 0 < n2) := Lib.hid (fun h => lLast_pos Y2.out (by simp at h; omega))
  have hb := hBz
  clear hBz hB hl hK
  go_enter Tryz.func194, Tryz.ntmps194
  go_wp2_with fail
  refine (HPs.out _ _ _ hb (by omega)).mono ?_
  rw [H1.out]
  rintro e wn ⟨rfl, hz⟩
  replace k0 := cell_keep k0 hz
  replace k1 := cell_keep k1 hz
  replace hb := below_step hb hz hb.size
  clear hz
  go_wp2_with fail
  refine (HLs.out _ _ hb (by omega)).mono ?_
  rw [Y1.out]
  rintro e wn ⟨rfl, hz⟩
  replace k0 := cell_keep k0 hz
  replace k1 := cell_keep k1 hz
  replace hb := below_step hb hz hb.size
  clear hz
  cases m1 : ([11, 10].contains y1) with
  | true =>
    go_wp2_with fail
    refine (tamong_b _ [11, 10] 2 _ _ rfl rfl (by decide)).mono ?_
    rw [m1]
    rintro e wn ⟨rfl, hz⟩
    replace k0 := cell_keep k0 hz
    replace k1 := cell_keep k1 hz
    replace hb := below_step hb hz hb.size
    clear hz
    have hp := P1.out m1
    rw [m1, if_pos rfl] at H2
    obtain ⟨r1, rfl⟩ : ∃ r, n1 = r + 1 := ⟨n1 - 1, by omega⟩
    rw [Nat.add_sub_cancel] at H2
    have e1 : ((r1 + 1 : Nat) : Int) - 1 = (r1 : Int) := by omega
    go_wp2_with fail
    refine (HPs.out _ _ _ hb (by omega)).mono ?_
    rw [H2.out]
    rintro e wn ⟨rfl, hz⟩
    replace k0 := cell_keep k0 hz
    replace k1 := cell_keep k1 hz
    replace hb := below_step hb hz hb.size
    clear hz
    go_wp2_with fail
    refine (HLs.out _ _ hb (by omega)).mono ?_
    rw [Y2.out]
    rintro e wn ⟨rfl, hz⟩
    replace k0 := cell_keep k0 hz
    replace k1 := cell_keep k1 hz
    replace hb := below_step hb hz hb.size
    clear hz
    cases m2 : ([14, 15].contains y2) with
    | true =>
      go_wp2_with fail
      refine (tamong_b _ [14, 15] 2 _ _ rfl rfl (by decide)).mono ?_
      rw [m2]
      rintro e wn ⟨rfl, hz⟩
      replace k0 := cell_keep k0 hz
      replace k1 := cell_keep k1 hz
      replace hb := below_step hb hz hb.size
      clear hz
      have hp := P2.out m2
      rw [m2, if_pos rfl] at H3
      obtain ⟨r2, rfl⟩ : ∃ r, n2 = r + 1 := ⟨n2 - 1, by omega⟩
      rw [Nat.add_sub_cancel] at H3
      have e2 : ((r2 + 1 : Nat) : Int) - 1 = (r2 : Int) := by omega
      go_wp2_with fail
      refine (HPs.out _ _ _ hb (by omega)).mono ?_
      rw [H3.out]
      rintro e wn ⟨rfl, hz⟩
      replace k0 := cell_keep k0 hz
      replace k1 := cell_keep k1 hz
      replace hb := below_step hb hz hb.size
      clear hz
      go_wp2_with fail
      refine (HLs.out _ _ hb (by omega)).mono ?_
      rw [Y3.out]
      rintro e wn ⟨rfl, hz⟩
      replace k0 := cell_keep k0 hz
      replace k1 := cell_keep k1 hz
      replace hb := below_step hb hz hb.size
      clear hz
      go_wp2
      go_ret
      exact ⟨by rw [HW.out]; rfl, hb⟩
    | false =>
      go_wp2_with fail
      refine (tamong_b _ [14, 15] 2 _ _ rfl rfl (by decide)).mono ?_
      rw [m2]
      rintro e wn ⟨rfl, hz⟩
      replace k0 := cell_keep k0 hz
      replace k1 := cell_keep k1 hz
      replace hb := below_step hb hz hb.size
      clear hz
      rw [m2, if_neg (by simp)] at H3
      obtain rfl := H3.out.symm
      go_wp2_with fail
      refine (HLs.out _ _ hb (by omega)).mono ?_
      rw [Y3.out]
      rintro e wn ⟨rfl, hz⟩
      replace k0 := cell_keep k0 hz
      replace k1 := cell_keep k1 hz
      replace hb := below_step hb hz hb.size
      clear hz
      go_wp2
      go_ret
      exact ⟨by rw [HW.out]; rfl, hb⟩
  | false =>
    go_wp2_with fail
    refine (tamong_b _ [11, 10] 2 _ _ rfl rfl (by decide)).mono ?_
    rw [m1]
    rintro e wn ⟨rfl, hz⟩
    replace k0 := cell_keep k0 hz
    replace k1 := cell_keep k1 hz
    replace hb := below_step hb hz hb.size
    clear hz
    rw [m1, if_neg (by simp)] at H2
    obtain rfl := H2.out.symm
    go_wp2_with fail
    refine (HLs.out _ _ hb (by omega)).mono ?_
    rw [Y2.out]
    rintro e wn ⟨rfl, hz⟩
    replace k0 := cell_keep k0 hz
    replace k1 := cell_keep k1 hz
    replace hb := below_step hb hz hb.size
    clear hz
    cases m2 : ([14, 15].contains y2) with
    | true =>
      go_wp2_with fail
      refine (tamong_b _ [14, 15] 2 _ _ rfl rfl (by decide)).mono ?_
      rw [m2]
      rintro e wn ⟨rfl, hz⟩
      replace k0 := cell_keep k0 hz
      replace k1 := cell_keep k1 hz
      replace hb := below_step hb hz hb.size
      clear hz
      have hp := P2.out m2
      rw [m2, if_pos rfl] at H3
      obtain ⟨r2, rfl⟩ : ∃ r, n2 = r + 1 := ⟨n2 - 1, by omega⟩
      rw [Nat.add_sub_cancel] at H3
      have e2 : ((r2 + 1 : Nat) : Int) - 1 = (r2 : Int) := by omega
      go_wp2_with fail
      refine (HPs.out _ _ _ hb (by omega)).mono ?_
      rw [H3.out]
      rintro e wn ⟨rfl, hz⟩
      replace k0 := cell_keep k0 hz
      replace k1 := cell_keep k1 hz
      replace hb := below_step hb hz hb.size
      clear hz
      go_wp2_with fail
      refine (HLs.out _ _ hb (by omega)).mono ?_
      rw [Y3.out]
      rintro e wn ⟨rfl, hz⟩
      replace k0 := cell_keep k0 hz
      replace k1 := cell_keep k1 hz
      replace hb := below_step hb hz hb.size
      clear hz
      go_wp2
      go_ret
      exact ⟨by rw [HW.out]; rfl, hb⟩
    | false =>
      go_wp2_with fail
      refine (tamong_b _ [14, 15] 2 _ _ rfl rfl (by decide)).mono ?_
      rw [m2]
      rintro e wn ⟨rfl, hz⟩
      replace k0 := cell_keep k0 hz
      replace k1 := cell_keep k1 hz
      replace hb := below_step hb hz hb.size
      clear hz
      rw [m2, if_neg (by simp)] at H3
      obtain rfl := H3.out.symm
      go_wp2_with fail
      refine (HLs.out _ _ hb (by omega)).mono ?_
      rw [Y3.out]
      rintro e wn ⟨rfl, hz⟩
      replace k0 := cell_keep k0 hz
      replace k1 := cell_keep k1 hz
      replace hb := below_step hb hz hb.size
      clear hz
      go_wp2
      go_ret
      exact ⟨by rw [HW.out]; rfl, hb⟩
end Go.Proofs.YthlnfefpdmecaaaGreatDoor

/-
  line: glued, walked. Printed by gen_tcut2.py.
-/
namespace Go.Proofs.YthlnfefpdmecaaaGreatDoor
open Go.RowKit

set_option maxRecDepth 100000 in
set_option maxHeartbeats 8000000 in
theorem tglued_any (A B : Option Addr) (na ca n cb : Nat) (c : List Int) (i : Nat) (p b q : Int) (hp : c[i - 1]? = some p) (w : World) (hB : Rd w 1 B (c.map encZ)) (_hl : c.length = n) (h1i : 1 ≤ i) (hin : i < n) (hn : n ≤ 3000000) :
    Calls Tryz.prog 163 #[.agg #[.slice A na ca, .slice B n cb], .int .i64 i, .int .i64 b, .int .i64 q] w fun e w' => e = .returned (.bool (lGlued p b q)) ∧ Below w.heap.size w w' := by
  have hBz : Below w.heap.size w (w.alloc (.cells #[.slice A na ca, .slice B n cb] 122)) := (Below.refl _ _).alloc (Nat.le_refl _) _
  have hK := Blk.new w 122 #[.slice A na ca, .slice B n cb]
  have k0 := hK.cell 0
  have k1 := hK.cell 1
  simp only [List.getElem?_toArray, List.getElem?_cons_zero, List.getElem?_cons_succ] at k0 k1
  obtain ⟨x1, H1⟩ : ∃ x, Hid (((q == 8) && (!([1, 2, 3, 4, 5].contains p))) = x) := ⟨_, Lib.hid rfl⟩
  obtain ⟨x2, H2⟩ : ∃ x, Hid ((q == 6) = x) := ⟨_, Lib.hid rfl⟩
  obtain ⟨x3, H3⟩ : ∃ x, Hid ((b == 6) = x) := ⟨_, Lib.hid rfl⟩
  obtain ⟨x4, H4⟩ : ∃ x, Hid ((b == 7) = x) := ⟨_, Lib.hid rfl⟩
  obtain ⟨x5, H5⟩ : ∃ x, Hid ((((q == 7) && (!([4, 17, 16].contains b))) || ([11, 10, 13, 14, 15].contains q)) = x) := ⟨_, Lib.hid rfl⟩
  have HW : Hid (lGlued p b q = ((x1 || x2 || x3 || x4) || x5)) := Lib.hid (by rw [← H1.out, ← H2.out, ← H3.out, ← H4.out, ← H5.out]; rfl)
  obtain ⟨j, rfl⟩ : ∃ j, i = j + 1 := ⟨i - 1, by omega⟩
  rw [Nat.add_sub_cancel] at hp
  have e1 : ((j + 1 : Nat) : Int) - 1 = (j : Int) := by omega
  obtain ⟨blk, off, rfl, kp⟩ := hB.atZ hp
  replace kp := cell_keep kp hBz
  have hb := hBz
  clear hBz hB _hl hK hp
  go_enter Tryz.func163, Tryz.ntmps163
  go_upto_region 1 with fail
  generalize w.alloc (.cells #[.slice A na ca, .slice (some ⟨blk, off, none⟩) n cb] 122) = w1 at hb k0 k1 kp ⊢
  go_cut [9] from 9 (fun v wx => v = .bool x1 ∧ Below w.heap.size w wx ∧ wx.cell? ⟨w.heap.size, 0, none⟩ = some (.slice A na ca) ∧ wx.cell? ⟨w.heap.size, 1, none⟩ = some (.slice (some ⟨blk, off, none⟩) n cb) ∧ wx.cell? ⟨blk, off + j, none⟩ = some (.int .i64 p))
  case first =>
    cases h1 : (q == 8) with
    | true =>
      cases h2 : ([1, 2, 3, 4, 5].contains p) with
      | true =>
        go_wp2_with fail
        refine (tamong_b _ [1, 2, 3, 4, 5] 5 _ _ rfl rfl (by decide)).mono ?_
        rw [h2]
        rintro e wn ⟨rfl, hz⟩
        replace k0 := cell_keep k0 hz
        replace k1 := cell_keep k1 hz
        replace kp := cell_keep kp hz
        replace hb := below_step hb hz hb.size
        clear hz
        go_wp2_with fail
        go_meet
        exact ⟨by rw [← H1.out, h1, h2] <;> rfl, hb, k0, k1, kp⟩
      | false =>
        go_wp2_with fail
        refine (tamong_b _ [1, 2, 3, 4, 5] 5 _ _ rfl rfl (by decide)).mono ?_
        rw [h2]
        rintro e wn ⟨rfl, hz⟩
        replace k0 := cell_keep k0 hz
        replace k1 := cell_keep k1 hz
        replace kp := cell_keep kp hz
        replace hb := below_step hb hz hb.size
        clear hz
        go_wp2_with fail
        go_meet
        exact ⟨by rw [← H1.out, h1, h2] <;> rfl, hb, k0, k1, kp⟩
    | false =>
      go_wp2_with fail
      go_meet
      exact ⟨by rw [← H1.out, h1] <;> rfl, hb, k0, k1, kp⟩
  case rest =>
    obtain ⟨rfl, hb, k0, k1, kp⟩ := hcut
    cases x1 with
    | true =>
      go_wp2
      go_ret
      exact ⟨by rw [HW.out]; simp, hb⟩
    | false =>
      go_upto_region 2 with fail
      go_cut [9] from 9 (fun v wx => v = .bool x2 ∧ Below w.heap.size w wx ∧ wx.cell? ⟨w.heap.size, 0, none⟩ = some (.slice A na ca) ∧ wx.cell? ⟨w.heap.size, 1, none⟩ = some (.slice (some ⟨blk, off, none⟩) n cb) ∧ wx.cell? ⟨blk, off + j, none⟩ = some (.int .i64 p))
      case first =>
        cases h1 : (q == 6) with
        | true =>
          go_wp2_with fail
          go_meet
          exact ⟨by rw [← H2.out, h1] <;> rfl, hb, k0, k1, kp⟩
        | false =>
          go_wp2_with fail
          go_meet
          exact ⟨by rw [← H2.out, h1] <;> rfl, hb, k0, k1, kp⟩
      case rest =>
        obtain ⟨rfl, hb, k0, k1, kp⟩ := hcut
        cases x2 with
        | true =>
          go_wp2
          go_ret
          exact ⟨by rw [HW.out]; simp, hb⟩
        | false =>
          go_upto_region 3 with fail
          go_cut [9] from 9 (fun v wx => v = .bool x3 ∧ Below w.heap.size w wx ∧ wx.cell? ⟨w.heap.size, 0, none⟩ = some (.slice A na ca) ∧ wx.cell? ⟨w.heap.size, 1, none⟩ = some (.slice (some ⟨blk, off, none⟩) n cb) ∧ wx.cell? ⟨blk, off + j, none⟩ = some (.int .i64 p))
          case first =>
            cases h1 : (b == 6) with
            | true =>
              go_wp2_with fail
              go_meet
              exact ⟨by rw [← H3.out, h1] <;> rfl, hb, k0, k1, kp⟩
            | false =>
              go_wp2_with fail
              go_meet
              exact ⟨by rw [← H3.out, h1] <;> rfl, hb, k0, k1, kp⟩
          case rest =>
            obtain ⟨rfl, hb, k0, k1, kp⟩ := hcut
            cases x3 with
            | true =>
              go_wp2
              go_ret
              exact ⟨by rw [HW.out]; simp, hb⟩
            | false =>
              go_upto_region 4 with fail
              go_cut [9] from 9 (fun v wx => v = .bool x4 ∧ Below w.heap.size w wx ∧ wx.cell? ⟨w.heap.size, 0, none⟩ = some (.slice A na ca) ∧ wx.cell? ⟨w.heap.size, 1, none⟩ = some (.slice (some ⟨blk, off, none⟩) n cb) ∧ wx.cell? ⟨blk, off + j, none⟩ = some (.int .i64 p))
              case first =>
                cases h1 : (b == 7) with
                | true =>
                  go_wp2_with fail
                  go_meet
                  exact ⟨by rw [← H4.out, h1] <;> rfl, hb, k0, k1, kp⟩
                | false =>
                  go_wp2_with fail
                  go_meet
                  exact ⟨by rw [← H4.out, h1] <;> rfl, hb, k0, k1, kp⟩
              case rest =>
                obtain ⟨rfl, hb, k0, k1, kp⟩ := hcut
                cases x4 with
                | true =>
                  go_wp2
                  go_ret
                  exact ⟨by rw [HW.out]; simp, hb⟩
                | false =>
                  cases h1 : (q == 7) with
                  | true =>
                    cases h2 : ([4, 17, 16].contains b) with
                    | true =>
                      cases h3 : ([11, 10, 13, 14, 15].contains q) with
                      | true =>
                        go_wp2_with fail
                        refine (tamong_b _ [4, 17, 16] 3 _ _ rfl rfl (by decide)).mono ?_
                        rw [h2]
                        rintro e wn ⟨rfl, hz⟩
                        replace k0 := cell_keep k0 hz
                        replace k1 := cell_keep k1 hz
                        replace kp := cell_keep kp hz
                        replace hb := below_step hb hz hb.size
                        clear hz
                        go_wp2_with fail
                        refine (tamong_b _ [11, 10, 13, 14, 15] 5 _ _ rfl rfl (by decide)).mono ?_
                        rw [h3]
                        rintro e wn ⟨rfl, hz⟩
                        replace k0 := cell_keep k0 hz
                        replace k1 := cell_keep k1 hz
                        replace kp := cell_keep kp hz
                        replace hb := below_step hb hz hb.size
                        clear hz
                        go_wp2_with fail
                        go_ret
                        exact ⟨by rw [HW.out, ← H5.out, h1, h2, h3]; rfl, hb⟩
                      | false =>
                        go_wp2_with fail
                        refine (tamong_b _ [4, 17, 16] 3 _ _ rfl rfl (by decide)).mono ?_
                        rw [h2]
                        rintro e wn ⟨rfl, hz⟩
                        replace k0 := cell_keep k0 hz
                        replace k1 := cell_keep k1 hz
                        replace kp := cell_keep kp hz
                        replace hb := below_step hb hz hb.size
                        clear hz
                        go_wp2_with fail
                        refine (tamong_b _ [11, 10, 13, 14, 15] 5 _ _ rfl rfl (by decide)).mono ?_
                        rw [h3]
                        rintro e wn ⟨rfl, hz⟩
                        replace k0 := cell_keep k0 hz
                        replace k1 := cell_keep k1 hz
                        replace kp := cell_keep kp hz
                        replace hb := below_step hb hz hb.size
                        clear hz
                        go_wp2_with fail
                        go_ret
                        exact ⟨by rw [HW.out, ← H5.out, h1, h2, h3]; rfl, hb⟩
                    | false =>
                      go_wp2_with fail
                      refine (tamong_b _ [4, 17, 16] 3 _ _ rfl rfl (by decide)).mono ?_
                      rw [h2]
                      rintro e wn ⟨rfl, hz⟩
                      replace k0 := cell_keep k0 hz
                      replace k1 := cell_keep k1 hz
                      replace kp := cell_keep kp hz
                      replace hb := below_step hb hz hb.size
                      clear hz
                      go_wp2_with fail
                      go_ret
                      exact ⟨by rw [HW.out, ← H5.out, h1, h2]; rfl, hb⟩
                  | false =>
                    cases h2 : ([11, 10, 13, 14, 15].contains q) with
                    | true =>
                      go_wp2_with fail
                      refine (tamong_b _ [11, 10, 13, 14, 15] 5 _ _ rfl rfl (by decide)).mono ?_
                      rw [h2]
                      rintro e wn ⟨rfl, hz⟩
                      replace k0 := cell_keep k0 hz
                      replace k1 := cell_keep k1 hz
                      replace kp := cell_keep kp hz
                      replace hb := below_step hb hz hb.size
                      clear hz
                      go_wp2_with fail
                      go_ret
                      exact ⟨by rw [HW.out, ← H5.out, h1, h2]; rfl, hb⟩
                    | false =>
                      go_wp2_with fail
                      refine (tamong_b _ [11, 10, 13, 14, 15] 5 _ _ rfl rfl (by decide)).mono ?_
                      rw [h2]
                      rintro e wn ⟨rfl, hz⟩
                      replace k0 := cell_keep k0 hz
                      replace k1 := cell_keep k1 hz
                      replace kp := cell_keep kp hz
                      replace hb := below_step hb hz hb.size
                      clear hz
                      go_wp2_with fail
                      go_ret
                      exact ⟨by rw [HW.out, ← H5.out, h1, h2]; rfl, hb⟩
end Go.Proofs.YthlnfefpdmecaaaGreatDoor

/-
  PLAIN: databases that are written down: checked by reckoning; the two texts that every statement of kerflaw04 tries. No walk.
-/
namespace Go.Proofs.YthlnfefpdmecaaaGreatDoor

def offB (x y : Int × Int × Nat) : Bool := decide (x.2.1 < y.1) || decide (y.2.1 < x.1)
def offAll : List (Int × Int × Nat) → Bool
  | [] => true
  | x :: r => r.all (offB x) && offAll r
theorem offAll_spec : ∀ {l : List (Int × Int × Nat)}, offAll l = true → l.Pairwise Off
  | [], _ => .nil
  | x :: r, h => by
    simp only [offAll, Bool.and_eq_true, List.all_eq_true] at h
    refine .cons (fun y hy => ?_) (offAll_spec h.2)
    have := h.1 y hy
    simpa [offB, Off] using this
theorem entG_apart : ∀ {S : List (List (Int × Int))} {c : Nat}, (entG c S).Pairwise Off → Apart S
  | [], c, _ => fun i j a b hi => by simp at hi
  | s :: S, c, h => by
    unfold entG at h
    rw [List.pairwise_append] at h
    have ih := entG_apart h.2.1
    have hx : ∀ (j : Nat) (b : List (Int × Int)), S[j]? = some b → ∀ r, memR s r → memR b r → False := fun j b hb r ⟨x, hx, h1, h2⟩ ⟨y, hy, h3, h4⟩ => by
      have := h.2.2 (x.1, x.2, c) (List.mem_map.2 ⟨x, hx, rfl⟩) (y.1, y.2, c + 1 + j) (mem_entG.2 ⟨j, b, hb, hy, rfl⟩)
      unfold Off at this; simp only at this; omega
    intro i j a b hi hj hij r ha hb
    cases i with
    | zero =>
      cases j with
      | zero => omega
      | succ j => simp at hi hj; subst hi; exact hx j b hj r ha hb
    | succ i =>
      cases j with
      | zero => simp at hi hj; subst hj; exact hx i a hi r hb ha
      | succ j => exact ih i j a b (by simpa using hi) (by simpa using hj) (by omega) r ha hb
def nfB : List (Int × Int) → Bool
  | [] => true
  | x :: r => decide (0 ≤ x.1) && decide (x.1 ≤ x.2) && decide (x.2 ≤ 1114111) && r.all (fun y => decide (x.2 + 1 < y.1)) && nfB r
theorem nfB_spec : ∀ {l : List (Int × Int)}, nfB l = true → NF l
  | [], _ => ⟨trivial, by simp⟩
  | x :: r, h => by
    simp only [nfB, Bool.and_eq_true, List.all_eq_true, decide_eq_true_eq] at h
    obtain ⟨⟨⟨⟨h1, h2⟩, h3⟩, h4⟩, h5⟩ := h
    have ih := nfB_spec h5
    refine ⟨⟨h2, h4, ih.1⟩, fun y hy => ?_⟩
    rcases List.mem_cons.1 hy with rfl | hy
    · exact ⟨h1, h3⟩
    · exact ih.2 y hy
def nodB : List (List UInt8) → Bool
  | [] => true
  | x :: r => r.all (fun y => !(y == x)) && nodB r
theorem nodB_spec : ∀ {l : List (List UInt8)}, nodB l = true → l.Nodup
  | [], _ => .nil
  | x :: r, h => by
    simp only [nodB, Bool.and_eq_true, List.all_eq_true] at h
    refine List.nodup_cons.2 ⟨fun hx => ?_, nodB_spec h.2⟩
    have := h.1 x hx
    simp at this
/-- A database that is written down is one. -/
def DbP.okB (d : DbP) : Bool :=
  decide (d.sets.length = d.names.length) && d.sets.all nfB && nodB d.names && decide (d.names.head? = some otherL) && decide (d.sets.head? = some []) && decide (d.names.length ≤ 64) && offAll (entG 0 d.sets) && d.names.all nameL
theorem DbP.okB_spec {d : DbP} (h : d.okB = true) : d.Ok ∧ Apart d.sets ∧ d.Named := by
  simp only [DbP.okB, Bool.and_eq_true, List.all_eq_true, decide_eq_true_eq] at h
  obtain ⟨⟨⟨⟨⟨⟨⟨h1, h2⟩, h3⟩, h4⟩, h5⟩, h6⟩, h7⟩, h8⟩ := h
  exact ⟨⟨h1, fun l hl => nfB_spec (h2 l hl), nodB_spec h3, h4, h5, h6⟩, entG_apart (offAll_spec h7), h8⟩
/-- Whose text it is, of that it is the database. -/
theorem new_of {d : DbP} {t : List UInt8} (h : d.okB = true) (ht : (d.text == t) = true) (hl : decide (t.length ≤ 65536) = true) : newP t = .ok d := by
  obtain ⟨h1, h2, h3⟩ := DbP.okB_spec h
  have e : d.text = t := by simpa using ht
  subst e
  exact text_back h1 h2 h3 (by simpa using hl)

/- The two texts. -/
def extL : List UInt8 := [69, 120, 116, 101, 110, 100]
def letL : List UInt8 := [76, 101, 116, 116, 101, 114]
def smallD : DbP := ⟨[otherL, extL, letL], [[], [(768, 879)], [(97, 122), (233, 233)]]⟩
def smallT : List UInt8 := [85, 43, 48, 51, 48, 48, 45, 85, 43, 48, 51, 54, 70, 32, 59, 32, 69, 120, 116, 101, 110, 100, 10, 85, 43, 48, 48, 54, 49, 45, 85, 43, 48, 48, 55, 65, 32, 85, 43, 48, 48, 69, 57, 32, 59, 32, 76, 101, 116, 116, 101, 114, 10]
set_option maxRecDepth 100000 in
theorem small_ok : smallD.okB = true := by decide
set_option maxRecDepth 100000 in
theorem small_text : smallD.text = smallT := by decide
theorem new_small : newP smallT = .ok smallD := new_of small_ok (by rw [small_text]; simp) (by decide)
theorem small_get : smallD.get 101 = 2 ∧ smallD.get 769 = 1 ∧ smallD.get 65533 = 0 := by decide
theorem small_class : smallD.num letL = some 2 := by decide
theorem small_rng : smallD.rng.length = 3 := by rw [(rng_perm _).length_eq]; decide
/-- "'a' ; A", "'a'-'b' ; B". -/
def clashL1 : List UInt8 := [39, 97, 39, 32, 59, 32, 65]
def clashL2 : List UInt8 := [39, 97, 39, 45, 39, 98, 39, 32, 59, 32, 66]
def clashT : List UInt8 := clashL1 ++ 10 :: clashL2
theorem clash_says1 : lineP clashL1 = .says [65] [39, 97, 39, 32] := by rfl
theorem clash_says2 : lineP clashL2 = .says [66] [39, 97, 39, 45, 39, 98, 39, 32] := by rfl
theorem clash_parse1 : parseE (spcL [39, 97, 39, 32]) = .ok [(97, 97)] := by rfl
theorem clash_parse2 : parseE (spcL [39, 97, 39, 45, 39, 98, 39, 32]) = .ok [(97, 98)] := by rfl
theorem clash_nf1 : normR [(97, 97)] = [(97, 97)] := normR_of_NF (nfB_spec (by decide))
theorem clash_nf2 : normR [(97, 98)] = [(97, 98)] := normR_of_NF (nfB_spec (by decide))
theorem clash_or : orR [] [(97, 97)] = [(97, 97)] := by unfold orR; exact clash_nf1
theorem clash_step1 : stepL DbP.first clashL1 = .ok ⟨[otherL, [65]], [[], [(97, 97)]]⟩ := by
  unfold stepL
  rw [clash_says1]
  simp only
  unfold addL
  rw [if_neg (by decide), clash_parse1]
  simp only
  rw [clash_nf1, clash_or]
  rfl
theorem clash_step2 : stepL ⟨[otherL, [65]], [[], [(97, 97)]]⟩ clashL2 = .error 41 := by
  unfold stepL
  rw [clash_says2]
  simp only
  unfold addL
  rw [if_neg (by decide), clash_parse2]
  simp only
  rw [clash_nf2]
  rfl
theorem new_clash : newP clashT = .error (41, 2) := by
  unfold newP
  rw [if_neg (by decide)]
  have : splitL clashT = [clashL1, clashL2] := by decide
  rw [this]
  unfold linesGo
  rw [clash_step1]
  simp only
  unfold linesGo
  rw [clash_step2]
end Go.Proofs.YthlnfefpdmecaaaGreatDoor

/-
  PLAIN: a database's text read by a reckoning that the kernel can run; the same. No walk.
-/
namespace Go.Proofs.YthlnfefpdmecaaaGreatDoor

def insK (x : Int × Int) : List (Int × Int) → List (Int × Int)
  | [] => [x]
  | y :: r => if x.1 ≤ y.1 then x :: y :: r else y :: insK x r
def sortK : List (Int × Int) → List (Int × Int)
  | [] => []
  | x :: r => insK x (sortK r)
theorem insK_perm (x : Int × Int) : ∀ (l : List (Int × Int)), (insK x l).Perm (x :: l)
  | [] => .refl _
  | y :: r => by
    unfold insK
    split
    · exact .refl _
    · exact ((insK_perm x r).cons y).trans (List.Perm.swap x y r)
theorem sortK_perm : ∀ (l : List (Int × Int)), (sortK l).Perm l
  | [] => .refl _
  | x :: r => (insK_perm x (sortK r)).trans ((sortK_perm r).cons x)
theorem insK_rise {x : Int × Int} : ∀ {l : List (Int × Int)}, Rise l → Rise (insK x l)
  | [], _ => by unfold insK Rise; simp
  | y :: r, h => by
    have h' := List.pairwise_cons.1 h
    unfold insK
    split
    · rename_i hxy
      refine List.pairwise_cons.2 ⟨fun z hz => ?_, h⟩
      rcases List.mem_cons.1 hz with rfl | hz
      · exact hxy
      · have := h'.1 z hz; omega
    · rename_i hxy
      refine List.pairwise_cons.2 ⟨fun z hz => ?_, insK_rise h'.2⟩
      rcases List.mem_cons.1 ((insK_perm x r).mem_iff.1 hz) with rfl | hz
      · omega
      · exact h'.1 z hz
theorem sortK_rise : ∀ (l : List (Int × Int)), Rise (sortK l)
  | [] => .nil
  | _ :: r => insK_rise (sortK_rise r)
def normK (l : List (Int × Int)) : List (Int × Int) := mergeR (sortK (keepR l))
theorem normK_eq (l : List (Int × Int)) : normK l = normR l := mergeR_eq (sortK_perm _) (sortK_rise _)
def addK (d : DbP) (name set : List UInt8) : Except Int DbP :=
  if nameL name = false ∨ name = otherL then .error 40 else
  match parseE (spcL set) with
  | .error e => .error e
  | .ok l =>
    match d.num name with
    | some c => if d.clash c (normK l) then .error 41 else .ok ⟨d.names, d.sets.set c (normK ((d.sets.getD c []) ++ normK l))⟩
    | none => if 64 ≤ d.names.length then .error 6 else if d.clash d.names.length (normK l) then .error 41 else .ok ⟨d.names ++ [name], d.sets ++ [normK l]⟩
theorem addK_eq (d : DbP) (n s : List UInt8) : addK d n s = addL d n s := by
  have e : ∀ l, normK l = orR [] (normR l) := fun l => by unfold orR; rw [normK_eq, List.nil_append, normR_of_NF (normR_NF l)]
  have e1 : ∀ a b, normK (a ++ b) = orR a b := fun a b => by rw [normK_eq]; rfl
  unfold addK addL
  split
  · rfl
  · cases parseE (spcL s) with
    | error e => rfl
    | ok l =>
      simp only
      cases d.num n with
      | some c => simp only [e1, normK_eq]
      | none => simp only; rw [e, show orR [] (normR l) = normR l by rw [← e, normK_eq]]
def stepK (d : DbP) (l : List UInt8) : Except Int DbP :=
  match lineP l with
  | .none_ => .ok d
  | .noLine => .error 42
  | .says n s => addK d n s
theorem stepK_eq (d : DbP) (l : List UInt8) : stepK d l = stepL d l := by
  unfold stepK stepL
  cases lineP l with
  | none_ => rfl
  | noLine => rfl
  | says n s => exact addK_eq d n s
def goK (d : DbP) : List (List UInt8) → Nat → Except (Int × Nat) DbP
  | [], _ => .ok d
  | l :: r, i => match stepK d l with
    | .error e => .error (e, i + 1)
    | .ok d' => goK d' r (i + 1)
theorem goK_eq : ∀ (L : List (List UInt8)) (d : DbP) (i : Nat), goK d L i = linesGo d L i
  | [], _, _ => rfl
  | l :: r, d, i => by
    unfold goK linesGo
    rw [stepK_eq]
    cases stepL d l with
    | error e => rfl
    | ok d' => exact goK_eq r d' (i + 1)
/-- A text read by the reckoning. -/
theorem new_K {t : List UInt8} {d : DbP} (hl : decide (t.length ≤ 65536) = true) (h : goK DbP.first (splitL t) 0 = .ok d) : newP t = .ok d := by
  unfold newP
  rw [if_neg (by have := of_decide_eq_true hl; omega), ← goK_eq, h]
end Go.Proofs.YthlnfefpdmecaaaGreatDoor

/-
  PLAIN: the database of words' runes, as a row of names and sets; printed by gen_db.py. No walk.
-/
namespace Go.Proofs.YthlnfefpdmecaaaGreatDoor

def wordD : DbP := ⟨[otherL, [67, 114], [76, 102], [78, 101, 119, 108, 105, 110, 101], [69, 120, 116, 101, 110, 100], [90, 119, 106], [70, 111, 114, 109, 97, 116], [82, 101, 103, 105, 111, 110], [75, 97, 116, 97, 107, 97, 110, 97], [72, 101, 98, 114, 101, 119], [76, 101, 116, 116, 101, 114], [81, 117, 111, 116, 101], [68, 111, 117, 98, 108, 101], [77, 105, 100, 78, 117, 109, 76, 101, 116], [77, 105, 100, 76, 101, 116, 116, 101, 114], [77, 105, 100, 78, 117, 109], [68, 105, 103, 105, 116], [76, 111, 119], [83, 112, 97, 99, 101], [80, 105, 99, 116]], [[], [(13, 13)], [(10, 10)], [(11, 12), (133, 133), (8232, 8233)], [(768, 879), (1425, 1469), (8204, 8204), (12441, 12442), (65024, 65039), (127995, 127999)], [(8205, 8205)], [(173, 173), (8206, 8207), (8288, 8288), (65279, 65279)], [(127462, 127487)], [(12449, 12538), (12540, 12540), (65382, 65437)], [(1488, 1514)], [(65, 90), (97, 122), (170, 170), (181, 181), (192, 214), (216, 246), (248, 687), (880, 883), (902, 902), (904, 1153), (1162, 1366), (1568, 1610), (7680, 8124), (44032, 55203), (64256, 64262)], [(39, 39)], [(34, 34)], [(46, 46), (8216, 8217)], [(58, 58), (183, 183)], [(44, 44), (59, 59), (1644, 1644)], [(48, 57), (1632, 1641)], [(95, 95), (8255, 8255)], [(32, 32), (8192, 8198), (12288, 12288)], [(169, 169), (174, 174), (9728, 10175), (127744, 127994), (128000, 128591), (128640, 128767)]]⟩
set_option maxRecDepth 100000 in
theorem word_ok : wordD.okB = true := by kernel_rfl
theorem wordOk : wordD.Ok ∧ Apart wordD.sets ∧ wordD.Named := DbP.okB_spec word_ok
/-- The number of a rune's class. -/
def gW (r : Int) : Nat := wordD.get r
theorem gW_lt (r : Int) : gW r < 20 := get_lt wordOk.1 r
end Go.Proofs.YthlnfefpdmecaaaGreatDoor

/-
  props: Names, Set, Ranged, Of, walked.
-/
namespace Go.Proofs.YthlnfefpdmecaaaGreatDoor
open Go.RowKit Go.Maps
theorem full_small {d : DbP} (h : d.Ok) (ha : Apart d.sets) {k : Nat} {s : List (Int × Int)} (hk : d.full[k]? = some s) : s.length ≤ 1114112 := by
  have h1 := full_lenS h ha
  obtain ⟨hlt, e⟩ := List.getElem?_eq_some_iff.1 hk
  have hd : d.full = d.full.take k ++ s :: d.full.drop (k + 1) := by rw [← e, ← List.drop_eq_getElem_cons hlt, List.take_append_drop]
  rw [hd, lenS_append] at h1
  have : lenS (s :: d.full.drop (k + 1)) = s.length + lenS (d.full.drop (k + 1)) := rfl
  omega
theorem full_len' {d : DbP} (h : d.Ok) : d.full.length = d.names.length := full_len h
/-- The set of a number; none where there is none. -/
def DbP.setI (d : DbP) (k : Int) : List (Int × Int) := if 0 ≤ k then d.full.getD k.toNat [] else []
set_option maxRecDepth 100000 in
theorem wGet_nil (v : Value) (w : World) : Calls Tryz.prog 94 #[.pointer none, v] w fun e w' => e = .returned (.int .i64 0) ∧ w' = w := by
  go_enter Tryz.func94, Tryz.ntmps94
  go_wp2
  go_ret
  exact ⟨rfl, rfl⟩

/-- The classes of a text's runes. -/
def ofC (d : DbP) (s : ByteArray) : List Nat := (runesP s).map fun x => d.get (x.1 : Int)
def encN (x : Nat) : List Value := [.int .i64 (x : Int)]
theorem encN_ok (l : List Nat) : ∀ y ∈ l.map encN, y.length = 1 ∧ ∀ u ∈ y, u.oneCell' = true := by
  intro y hy; obtain ⟨r, _, rfl⟩ := List.mem_map.1 hy
  exact ⟨rfl, by simp [encN, Value.oneCell']⟩
/-- How far Of has come. -/
def OfCAt (d : DbP) (s : ByteArray) (f p : Nat) (o : List Nat) : Prop := (o ++ (runesGo s f p).map fun x => d.get (x.1 : Int)) = ofC d s ∧ s.size ≤ p + f ∧ p ≤ s.size
theorem ofCAt_first (d : DbP) (s : ByteArray) : OfCAt d s s.size 0 [] := ⟨by rw [List.nil_append]; rfl, by omega, by omega⟩
theorem ofCAt_add {d : DbP} {s : ByteArray} {f p R W : Nat} {o : List Nat} (h : OfCAt d s f p o) (hp : p < s.size) (hd : Utf8.decode s p = (R, W)) (hw : 1 ≤ W ∧ p + W ≤ s.size) : ∃ g, OfCAt d s g (p + W) (o ++ [d.get (R : Int)]) := by
  obtain ⟨g, rfl, hg⟩ := runesGo_step (s := s) (f := f) hp h.2.1
  rw [hd] at hg
  refine ⟨g, ?_, by have := h.2.1; omega, hw.2⟩
  rw [← h.1, hg]; simp
theorem ofCAt_end {d : DbP} {s : ByteArray} {f p : Nat} {o : List Nat} (h : OfCAt d s f p o) (hp : ¬ p < s.size) : o = ofC d s := by
  have := h.1
  rw [runesGo_end (by omega)] at this
  simpa using this

set_option maxRecDepth 100000 in
set_option maxHeartbeats 1000000 in
theorem wOf_any (p : Nat) (d : DbP) (s : ByteArray) (w : World) (h : DbAt w p d) (ho : d.Ok) (ha : Apart d.sets) (hs : s.size ≤ 1000000) :
    Calls Tryz.prog 101 #[.pointer (some ⟨p, 0, none⟩), .string s] w fun e w' => ∃ A n c, e = .returned (.slice A n c) ∧ Own w' w.heap.size 3 1 A n c ((ofC d s).map encN) ∧ Below w.heap.size w w' := by
  obtain ⟨i0, hi0, hz0, hz1, hz2⟩ := info_parts infoInt
  have HD := Lib.hid (And.intro h (And.intro ho ha))
  clear h ho ha
  go_enter Tryz.func101, Tryz.ntmps101
  go_wp2
  go_loopw [5] (fun v wr => ∃ (q f : Nat) (A1 : Option Addr) (n1 c1 : Nat) (o : List Nat), v = .slice A1 n1 c1 ∧ wr.heap[w.heap.size]? = some (.stringIter s q) ∧ Own wr (w.heap.size + 1) 3 1 A1 n1 c1 (o.map encN) ∧
      n1 ≤ q ∧ q ≤ s.size ∧ Hid (OfCAt d s f q o) ∧ Below w.heap.size w wr) (fun _ wr => s.size - wr.iterPos w.heap.size)
  case atStart => exact ⟨0, s.size, none, 0, 0, [], rfl, iter_new _ _ _, Own.nil_ _ _ _ _, by omega, by omega, ofCAt_first d s, below_iter (Below.refl _ _) (Nat.le_refl _) _ _⟩
  case round =>
    obtain ⟨q, f, A1, n1, c1, o, rfl, hit, ho, hn1, hps, HR, hb⟩ := hrel
    have hsz : w.heap.size < wr.heap.size := (Array.getElem?_eq_some_iff.1 hit).1
    have Hpos := Lib.hid (iterPos_of hit)
    by_cases hp : q < s.size
    · obtain ⟨⟨R, W⟩, HDc⟩ : ∃ d, Utf8.decode s q = d := ⟨_, rfl⟩
      have hd := dec_bd s q hp
      have hnx : ∀ ty, (Instr.next (.pointer (some ⟨w.heap.size, 0, none⟩)) true ty).run Tryz.prog wr = _ := fun ty => Lib.run_next_any_at wr w.heap.size s q ty hit hp
      have hit2 := Lib.iterAt_heap wr w.heap.size s q (q + (Utf8.decode s q).2) hit
      have hb2 := Lib.below_iterAt hb (k := w.heap.size) (Nat.le_refl _) s (q + (Utf8.decode s q).2)
      have ho2 := ho.iterAt (k := w.heap.size) (by omega) s (q + (Utf8.decode s q).2)
      have hsz2 : w.heap.size < (wr.iterAt w.heap.size s (q + (Utf8.decode s q).2)).heap.size := by rw [Lib.iterAt_size]; exact hsz
      rw [HDc] at hd hnx hit2 hb2 ho2 hsz2
      simp only at hd hnx hit2 hb2 ho2 hsz2
      obtain ⟨g, HA⟩ := ofCAt_add HR.out hp HDc (by omega)
      have HA := Lib.hid HA
      clear HR HDc
      generalize wr.iterAt w.heap.size s (q + W) = w2 at hnx hit2 hb2 ho2 hsz2
      have HG := Lib.hid (wGet_any p d R w2 (HD.out.1.below hb2) HD.out.2.1 HD.out.2.2)
      clear ho hb hit hsz
      go_wp2_with (first | (go_at_call 94; refine HG.out.mono ?_; rintro e w4 ⟨rfl, hb4⟩; have hit4 := (hb4.block _ hsz2).trans hit2; have ho4 := ho2.below hb4; have hbb := below_step hb2 hb4 hb2.size; have hsz4 := Nat.lt_of_lt_of_le hsz2 hb4.size; clear hit2 ho2 hb2) | (at_builtin; go_must (refine wpList_app rfl (.tmp 15) (.tmp 19) _ rfl (w.heap.size + 1) 3 i0 _ 1 8 Tryz.underlying35 hi0 hz0 hz1 hz2 rfl (by omega) A1 n1 c1 (o.map encN) rfl (ho4.alloc _) _ 1 1 [encN (d.get R)] rfl rfl (Rd.newAt (by simp) rfl) (encN_ok [d.get R]) (by unfold maxLen; omega) (by omega) (by simp; omega) ?_); intro A3 c3 w3 ho3 hg3 hA3; have hit3 := hg3.block w.heap.size (by simp; omega) (fun e => by cases A1 with | none => simp at e | some a => have := (ho4.lt a rfl).1; simp at e; omega); have hb3 := below_app (hbb.alloc (by omega) _) hg3 (by simp; omega) (fun a ha => by have := (ho4.lt a ha).1; omega); clear hg3))
      have hit5 : w3.heap[w.heap.size]? = some (.stringIter s (q + W)) := hit3.trans ((Below.heap_alloc _ _ _ hsz4).trans hit4)
      have Ho3 : Own w3 (w.heap.size + 1) 3 1 A3 (n1 + 1) c3 ((o ++ [d.get (R : Int)]).map encN) := by rw [List.map_append]; exact ho3
      clear hit3 ho3
      go_roundw
      case rel => exact ⟨q + W, g, A3, n1 + 1, c3, o ++ [d.get (R : Int)], rfl, hit5, Ho3, by omega, by omega, HA, hb3⟩
      case measure => rw [iterPos_of hit5, Hpos.out]; omega
    · have hnx : ∀ ty, (Instr.next (.pointer (some ⟨w.heap.size, 0, none⟩)) true ty).run Tryz.prog wr = _ := fun ty => Lib.run_next_end_at wr w.heap.size s q ty hit hp
      have HE := Lib.hid (ofCAt_end HR.out hp)
      go_wp2
      go_ret
      exact ⟨A1, n1, c1, rfl, by rw [← HE.out]; exact ho.more (by omega), hb⟩
set_option maxRecDepth 100000 in
theorem wOf_nil (v : Value) (w : World) : Calls Tryz.prog 101 #[.pointer none, v] w fun e w' => e = .returned (.slice none 0 0) ∧ w' = w := by
  go_enter Tryz.func101, Tryz.ntmps101
  go_wp2
  go_ret
  exact ⟨rfl, rfl⟩
end Go.Proofs.YthlnfefpdmecaaaGreatDoor

/-
  REGIONS: a region that draws its order, and whose last operation waits for all the others: the head may be walked as a region of its own. No program's walk.
-/
namespace Go.Proofs.YthlnfefpdmecaaaGreatDoor
open Go Go.RowKit

section
variable {P : Program} {Q : Exit → Act → World → Prop} {md : Region.Mode}
/-- The head's post: N at its end, else as it was. -/
def tailQ (N : Act → World → Prop) (Q : Exit → Act → World → Prop) : Exit → Act → World → Prop
  | .normal, a, w => N a w
  | e, a, w => Q e a w
theorem wp_tailQ {N : Act → World → Prop} {o : Oper} {a : Act} {w : World} {K : Act → World → Prop} : Oper.wp P o a w K (tailQ N Q) = Oper.wp P o a w K Q := by
  unfold Oper.wp
  generalize (execOp a.eval o).run P w = r
  cases r with
  | ok n w' => cases n <;> simp only [Oper.upon] <;> rfl
  | halt x w' => cases x <;> rfl
theorem lets_tailQ {N : Act → World → Prop} : LetsOut (tailQ N Q) = LetsOut Q := rfl
/-- Each operation but the last is waited for by a later one. -/
def lastSink (md : Region.Mode) (l : List Oper) : Bool :=
  (List.range (l.length - 1)).all fun i => (List.range l.length).any fun j => decide (i < j) && ((l[j]?).map fun o => o.after.any fun e => Region.binds md e && e.on == i).getD false
/-- Each operation waits for earlier ones alone; none is guarded. -/
def lastDown (md : Region.Mode) (l : List Oper) : Bool :=
  (List.range l.length).all fun j => ((l[j]?).map fun o => o.guard.isNone && o.after.all fun e => !Region.binds md e || decide (e.on < j)).getD true
theorem lastSink_spec {l : List Oper} (h : lastSink md l = true) {i : Nat} (hi : i < l.length - 1) : ∃ j o, i < j ∧ l[j]? = some o ∧ ∃ e ∈ o.after, Region.binds md e = true ∧ e.on = i := by
  unfold lastSink at h
  rw [List.all_eq_true] at h
  have h1 := h i (List.mem_range.2 hi)
  rw [List.any_eq_true] at h1
  obtain ⟨j, _, h2⟩ := h1
  rw [Bool.and_eq_true, decide_eq_true_eq] at h2
  obtain ⟨h3, h4⟩ := h2
  cases ho : l[j]? with
  | none => rw [ho] at h4; cases h4
  | some o =>
    rw [ho] at h4
    simp only [Option.map_some, Option.getD_some, Array.any_eq_true] at h4
    obtain ⟨k, hk, h5⟩ := h4
    simp only [Bool.and_eq_true, beq_iff_eq] at h5
    exact ⟨j, o, h3, ho, _, Array.getElem_mem hk, h5.1, h5.2⟩
theorem lastDown_spec {l : List Oper} (h : lastDown md l = true) {j : Nat} {o : Oper} (hj : l[j]? = some o) : o.guard = none ∧ ∀ e ∈ o.after, Region.binds md e = true → e.on < j := by
  unfold lastDown at h
  rw [List.all_eq_true] at h
  have h1 := h j (List.mem_range.2 (List.getElem?_eq_some_iff.1 hj).1)
  rw [hj] at h1
  simp only [Option.map_some, Option.getD_some, Bool.and_eq_true, Option.isNone_iff_eq_none] at h1
  refine ⟨h1.1, fun e he hb => ?_⟩
  have h2 := Array.all_eq_true_iff_forall_mem.1 h1.2 e he
  rw [hb] at h2
  simpa using h2
/-- The head's list and the whole one tell the same of the head. -/
structure SameHead (md : Region.Mode) (l : List Oper) (L L' : Array Bool) : Prop where
  size : L.size = l.length
  size' : L'.size = l.length - 1
  same : ∀ i, i < l.length - 1 → ∀ d, L.getD i d = L'.getD i d
  inv : ∀ (j : Nat) (o : Oper), l[j]? = some o → L.getD j false = true → ∀ e ∈ o.after, Region.binds md e = true → L.getD e.on false = true
  last : L.getD (l.length - 1) false = false
theorem getD_any {L : Array Bool} {i : Nat} (h : i < L.size) (d d' : Bool) : L.getD i d = L.getD i d' := by simp [h]
theorem head_get {l : List Oper} {i : Nat} (h : i < l.length - 1) : (l.dropLast.toArray)[i]? = l[i]? := by
  rw [List.getElem?_toArray, List.getElem?_dropLast, if_pos h]
theorem SameHead.ready {l : List Oper} {L L' : Array Bool} (h : SameHead md l L L') (hd : lastDown md l = true) {i : Nat} (hi : i < l.length - 1) : i ∈ Region.ready md l.toArray L ↔ i ∈ Region.ready md l.dropLast.toArray L' := by
  rw [mem_ready, mem_ready, head_get hi, List.getElem?_toArray, h.same i hi]
  constructor
  · rintro ⟨h0, o, ho, h1⟩
    exact ⟨h0, o, ho, fun e he hb => by rw [← h.same e.on (by have := (lastDown_spec hd ho).2 e he hb; omega)]; exact h1 e he hb⟩
  · rintro ⟨h0, o, ho, h1⟩
    exact ⟨h0, o, ho, fun e he hb => by rw [h.same e.on (by have := (lastDown_spec hd ho).2 e he hb; omega)]; exact h1 e he hb⟩
theorem SameHead.all {l : List Oper} {L L' : Array Bool} (h : SameHead md l L L') (hs : lastSink md l = true) (hr : l.length - 1 ∈ Region.ready md l.toArray L) : ∀ (k i : Nat), i < l.length - 1 → l.length - 1 ≤ i + k → L.getD i false = true
  | 0, i, hi, hk => by omega
  | k + 1, i, hi, hk => by
    obtain ⟨j, o, hij, ho, e, he, hb, rfl⟩ := lastSink_spec hs hi
    have hjl := (List.getElem?_eq_some_iff.1 ho).1
    by_cases hj : j = l.length - 1
    · obtain ⟨_, o', ho', hall⟩ := mem_ready.1 hr
      rw [List.getElem?_toArray, ← hj, ho] at ho'
      injection ho' with ho'; subst ho'
      exact hall e he hb
    · exact h.inv j o ho (h.all hs hr k j (by omega) (by omega)) e he hb
theorem SameHead.some_ready {l : List Oper} {L L' : Array Bool} (h : SameHead md l L L') (hd : lastDown md l = true) (hn : 0 < l.length) : Region.ready md l.toArray L ≠ [] := fun h0 => by
  have key : ∀ k, k < l.length → L.getD k false = true := by
    intro k
    induction k using Nat.strongRecOn with
    | ind k ih =>
      intro hk
      cases hq : L.getD k false with
      | true => rfl
      | false =>
        obtain ⟨o, ho⟩ : ∃ o, l[k]? = some o := ⟨_, List.getElem?_eq_getElem hk⟩
        have : k ∈ Region.ready md l.toArray L := mem_ready.2 ⟨by rw [getD_any (by rw [h.size]; exact hk) true false]; exact hq, o, by rw [List.getElem?_toArray]; exact ho, fun e he hb => by
          have := (lastDown_spec hd ho).2 e he hb
          exact ih e.on this (by omega)⟩
        rw [h0] at this; cases this
  have := key (l.length - 1) (by omega)
  rw [h.last] at this; cases this
theorem SameHead.step {l : List Oper} {L L' : Array Bool} (h : SameHead md l L L') {i : Nat} (hi : i < l.length - 1) (hr : i ∈ Region.ready md l.toArray L) : SameHead md l (L.setIfInBounds i true) (L'.setIfInBounds i true) := by
  refine ⟨by simpa using h.size, by simpa using h.size', fun k hk d => ?_, fun j o ho hj e he hb => ?_, by rw [getD_set_ne false (by omega)]; exact h.last⟩
  · by_cases e : i = k
    · subst e; simp [h.size, h.size', hk, show i < l.length by omega]
    · rw [getD_set_ne d e, getD_set_ne d e]; exact h.same k hk d
  · by_cases e1 : i = j
    · subst e1
      obtain ⟨_, o', ho', hall⟩ := mem_ready.1 hr
      rw [List.getElem?_toArray, ho] at ho'
      injection ho' with ho'; subst ho'
      exact getD_set_true (hall e he hb)
    · rw [getD_set_ne false e1] at hj
      exact getD_set_true (h.inv j o ho hj e he hb)
theorem wpOp_head {l : List Oper} (hd : lastDown md l = true) {N : Act → World → Prop} {i : Nat} (hi : i < l.length - 1) {K K' : Act → World → Prop} {a : Act} {w : World} (hK : ∀ a w, K a w → K' a w)
    (h : wpOp P l.dropLast.toArray (tailQ N Q) i K a w) : wpOp P l.toArray Q i K' a w := by
  refine wpOp_mono hK ?_
  obtain ⟨o, ho⟩ : ∃ o, l[i]? = some o := ⟨_, List.getElem?_eq_getElem (by omega)⟩
  have hg := (lastDown_spec hd ho).1
  unfold wpOp at h ⊢
  simp only [head_get hi, List.getElem?_toArray, ho, Region.wanted, hg, if_true, wp_tailQ, lets_tailQ] at h ⊢
  exact h
theorem last_step {l : List Oper} {L L' : Array Bool} (h : SameHead md l L L') (hs : lastSink md l = true) (hr : l.length - 1 ∈ Region.ready md l.toArray L) (hn : 0 < l.length) {fuel : Nat} {a : Act} {w : World}
    (H : wpOp P l.toArray Q (l.length - 1) (Q .normal) a w) : wpOp P l.toArray Q (l.length - 1) (wpAny P md l.toArray Q fuel (L.setIfInBounds (l.length - 1) true)) a w := by
  have h0 : Region.ready md l.toArray (L.setIfInBounds (l.length - 1) true) = [] := by
    refine List.eq_nil_iff_forall_not_mem.2 fun j hj => ?_
    obtain ⟨h1, o, ho, _⟩ := mem_ready.1 hj
    have hjl : j < l.length := by rw [List.getElem?_toArray] at ho; exact (List.getElem?_eq_some_iff.1 ho).1
    by_cases e : l.length - 1 = j
    · subst e; simp [h.size, hjl] at h1
    · rw [getD_set_ne true e, getD_any (by rw [h.size]; exact hjl) true false, h.all hs hr (l.length - 1) j (by omega) (by omega)] at h1
      cases h1
  refine wpOp_mono (fun a w hq => ?_) H
  cases fuel with
  | zero => exact ⟨h0, hq⟩
  | succ k => exact ⟨fun _ => hq, by rw [h0]; simp⟩
theorem wpAny_last {l : List Oper} (hs : lastSink md l = true) (hd : lastDown md l = true) (hn : 0 < l.length) :
    ∀ (fuel : Nat) (L L' : Array Bool) (a : Act) (w : World), SameHead md l L L' →
      wpAny P md l.dropLast.toArray (tailQ (wpOp P l.toArray Q (l.length - 1) (Q .normal)) Q) fuel L' a w → wpAny P md l.toArray Q (fuel + 1) L a w := by
  intro fuel
  induction fuel with
  | zero =>
    intro L L' a w hS H
    refine ⟨fun h0 => absurd h0 (hS.some_ready hd hn), fun i hi => ?_⟩
    obtain ⟨_, o, ho, _⟩ := mem_ready.1 hi
    have hil : i < l.length := by rw [List.getElem?_toArray] at ho; exact (List.getElem?_eq_some_iff.1 ho).1
    by_cases e : i < l.length - 1
    · have := (hS.ready hd e).1 hi
      rw [H.1] at this; cases this
    · obtain rfl : i = l.length - 1 := by omega
      exact last_step hS hs hi hn H.2
  | succ fuel ih =>
    intro L L' a w hS H
    refine ⟨fun h0 => absurd h0 (hS.some_ready hd hn), fun i hi => ?_⟩
    obtain ⟨_, o, ho, _⟩ := mem_ready.1 hi
    have hil : i < l.length := by rw [List.getElem?_toArray] at ho; exact (List.getElem?_eq_some_iff.1 ho).1
    by_cases e : i < l.length - 1
    · exact wpOp_head hd e (fun a w h => ih _ _ a w (hS.step e hi) h) (H.2 i ((hS.ready hd e).1 hi))
    · obtain rfl : i = l.length - 1 := by omega
      refine last_step hS hs hi hn (H.1 (List.eq_nil_iff_forall_not_mem.2 fun j hj => ?_))
      obtain ⟨h1, o, ho, _⟩ := mem_ready.1 hj
      have hjl : j < l.length - 1 := by rw [List.getElem?_toArray] at ho; have := (List.getElem?_eq_some_iff.1 ho).1; rwa [List.length_dropLast] at this
      rw [← hS.same j hjl true, getD_any (by rw [hS.size]; omega) true false, hS.all hs hi (l.length - 1) j hjl (by omega)] at h1
      cases h1
theorem tailQ_end {N : Act → World → Prop} {a : Act} {w : World} (h : N a w) : tailQ N Q .normal a w := h
/-- THE HEAD OF A REGION goes as a region that is held (S); then its last operation. -/
theorem wp_region_last {id : Nat} {l : List Oper} {a : Act} {w : World} {S : World → Prop} (n : Nat) (hn : l.length = n + 1) (hm : P.follows .mixedOrders = true) (hs : lastSink .any l = true) (hd : lastDown .any l = true) (hS : S w.drew)
    (h : S w.drew → wpAnyH P .any l.dropLast.toArray (tailQ (wpOp P l.toArray Q n (Q .normal)) Q) S n (Array.replicate n false) a w.drew) : (Code.region id l.toArray true).wp P Q a w := by
  obtain rfl : n = l.length - 1 := by omega
  have hH : SameHead .any l (Array.replicate l.length false) (Array.replicate (l.length - 1) false) := by
    refine ⟨by simp, by simp, fun i hi d => ?_, fun j o ho hj => ?_, ?_⟩
    · simp [hi, show i < l.length by omega]
    · have hl := (List.getElem?_eq_some_iff.1 ho).1
      simp [hl] at hj
    · simp [show l.length - 1 < l.length by omega]
  have := wpAny_last (Q := Q) hs hd (by omega) (l.length - 1) _ _ a w.drew hH (wpAny_of_held _ _ _ _ (h hS))
  rw [show l.length - 1 + 1 = l.toArray.size by simp; omega] at this
  refine wp_region_any hm ?_
  rw [show Array.replicate l.toArray.size false = Array.replicate l.length false by simp]
  exact this
end
end Go.Proofs.YthlnfefpdmecaaaGreatDoor

/-
  A text's runes laid in a struct: where each begins, its class: what memory holds while it is made. word.scan, walked.
-/
namespace Go.Proofs.YthlnfefpdmecaaaGreatDoor
open Go.RowKit

theorem Rd.atP {w : World} {A : Option Addr} {l : List Nat} {k : Nat} {x : Nat} (h : Rd w 1 A (l.map encN)) (hk : l[k]? = some x) : ∃ b off, A = some ⟨b, off, none⟩ ∧ w.cell? ⟨b, off + k, none⟩ = some (.int .i64 (x : Nat)) := by
  obtain ⟨b, off, rfl, hc⟩ := h (by intro e; cases l with | nil => simp at hk | cons _ _ => simp at e)
  have h0 := hc k 0 (encN x) (.int .i64 (x : Nat)) (by simp [hk]) rfl
  exact ⟨b, off, rfl, by simpa using h0⟩
/-- How far a scan has come. -/
def ScAt (g : Int → Nat) (s : ByteArray) (f q : Nat) (P : List Nat) (C : List Int) : Prop :=
  P ++ (runesGo s f q).map (·.2.1) = (runesP s).map (·.2.1) ∧ C ++ (runesGo s f q).map (fun x => (g x.1 : Int)) = wCls g s ∧ s.size ≤ q + f ∧ q ≤ s.size
theorem scAt_first (g : Int → Nat) (s : ByteArray) : ScAt g s s.size 0 [] [] := ⟨rfl, rfl, by omega, by omega⟩
theorem scAt_add {g : Int → Nat} {s : ByteArray} {f q R W : Nat} {P : List Nat} {C : List Int} (h : ScAt g s f q P C) (hp : q < s.size) (hd : Utf8.decode s q = (R, W)) (hw : 1 ≤ W ∧ q + W ≤ s.size) :
    ∃ f', ScAt g s f' (q + W) (P ++ [q]) (C ++ [(g R : Int)]) := by
  obtain ⟨f', rfl, hg⟩ := runesGo_step (s := s) (f := f) hp h.2.2.1
  rw [hd] at hg
  refine ⟨f', ?_, ?_, by have := h.2.2.1; omega, hw.2⟩
  · rw [← h.1, hg]; simp
  · rw [← h.2.1, hg]; simp
theorem scAt_end {g : Int → Nat} {s : ByteArray} {f q : Nat} {P : List Nat} {C : List Int} (h : ScAt g s f q P C) (hp : ¬ q < s.size) : P = (runesP s).map (·.2.1) ∧ C = wCls g s := by
  have h1 := h.1
  have h2 := h.2.1
  rw [runesGo_end (by omega)] at h1 h2
  exact ⟨by simpa using h1, by simpa using h2⟩

/-- A scan's own memory: the struct at bt, the iterator at bi, the two lists. -/
structure ScM (w : World) (t : TypeId) (B base bt bi : Nat) (s : ByteArray) (q : Nat) (tl : List Value) (A1 : Option Addr) (n1 c1 : Nat) (A2 : Option Addr) (n2 c2 : Nat) (P : List Nat) (C : List Int) : Prop where
  blk : Blk w bt t (Value.slice A1 n1 c1 :: Value.slice A2 n2 c2 :: tl).toArray
  it : w.heap[bi]? = some (.stringIter s q)
  o1 : Own w base 3 1 A1 n1 c1 (P.map encN)
  o2 : Own w base 3 1 A2 n2 c2 (C.map encZ)
  ne : ∀ a b, A1 = some a → A2 = some b → a.block ≠ b.block
  lt : B ≤ bt ∧ bt < base ∧ B ≤ bi ∧ bi < base ∧ bt ≠ bi ∧ base ≤ w.heap.size
section
variable {w w' : World} {t : TypeId} {B base bt bi : Nat} {s : ByteArray} {q : Nat} {tl : List Value} {A1 : Option Addr} {n1 c1 : Nat} {A2 : Option Addr} {n2 c2 : Nat} {P : List Nat} {C : List Int}
theorem ScM.below (h : ScM w t B base bt bi s q tl A1 n1 c1 A2 n2 c2 P C) (hb : Below w.heap.size w w') : ScM w' t B base bt bi s q tl A1 n1 c1 A2 n2 c2 P C :=
  ⟨h.blk.below hb, (hb.block _ (Array.getElem?_eq_some_iff.1 h.it).1).trans h.it, h.o1.below hb, h.o2.below hb, h.ne, ⟨h.lt.1, h.lt.2.1, h.lt.2.2.1, h.lt.2.2.2.1, h.lt.2.2.2.2.1, Nat.le_trans h.lt.2.2.2.2.2 hb.size⟩⟩
theorem ScM.iterAt (h : ScM w t B base bt bi s q tl A1 n1 c1 A2 n2 c2 P C) (k : Nat) : ScM (w.iterAt bi s k) t B base bt bi s k tl A1 n1 c1 A2 n2 c2 P C := by
  have hl := h.lt
  have hsame : ∀ b, b ≠ bi → (w.iterAt bi s k).heap[b]? = w.heap[b]? := fun b hne => Lib.iterAt_other w bi b s k hne
  refine ⟨(hsame bt hl.2.2.2.2.1).trans h.blk, Lib.iterAt_heap w bi s q k h.it, h.o1.keep fun a ha => hsame _ ?_, h.o2.keep fun a ha => hsame _ ?_, h.ne, ?_⟩
  · have := (h.o1.lt a ha).1; omega
  · have := (h.o2.lt a ha).1; omega
  · rw [Lib.iterAt_size]; exact hl
/-- The first list longer by one. -/
theorem ScM.more1 (h : ScM w t B base bt bi s q tl A1 n1 c1 A2 n2 c2 P C) {o : Obj} {x : Nat} {A3 : Option Addr} {c3 : Nat} {w3 : World} (ho : Own w3 base 3 1 A3 (n1 + 1) c3 ((P ++ [x]).map encN)) (hg : (w.alloc o).grownBy w3 (A1.map (·.block))) (hA : A3 = A1 ∨ A3 = some ⟨(w.alloc o).heap.size, 0, none⟩) :
    Blk w3 bt t (Value.slice A1 n1 c1 :: Value.slice A2 n2 c2 :: tl).toArray ∧ ScM (w3.setCell ⟨bt, 0, none⟩ (.slice A3 (n1 + 1) c3)) t B base bt bi s q tl A3 (n1 + 1) c3 A2 n2 c2 (P ++ [x]) C ∧ (∀ (V : World), Below B V w → Below B V (w3.setCell ⟨bt, 0, none⟩ (.slice A3 (n1 + 1) c3))) := by
  have hl := h.lt
  have hz : (w.alloc o).heap.size = w.heap.size + 1 := by simp
  have hne : ∀ b, b < base → some b ≠ A1.map (·.block) := fun b hb e => by
    cases A1 with
    | none => cases e
    | some a => have := (h.o1.lt a rfl).1; simp at e; omega
  have hsame : ∀ b, b < w.heap.size → some b ≠ A1.map (·.block) → w3.heap[b]? = w.heap[b]? := fun b hb e => (hg.block b (by omega) e).trans (Below.heap_alloc w o b hb)
  have hk : Blk w3 bt t (Value.slice A1 n1 c1 :: Value.slice A2 n2 c2 :: tl).toArray := (hsame bt h.blk.lt (hne bt hl.2.1)).trans h.blk
  have hset : ∀ b, b ≠ bt → (w3.setCell ⟨bt, 0, none⟩ (.slice A3 (n1 + 1) c3)).heap[b]? = w3.heap[b]? := fun b hb => Below.heap_setCell w3 ⟨bt, 0, none⟩ _ b hb
  refine ⟨hk, ⟨by have := hk.set_ 0 (.slice A3 (n1 + 1) c3); simpa using this, (hset bi (Ne.symm hl.2.2.2.2.1)).trans ((hsame bi (Array.getElem?_eq_some_iff.1 h.it).1 (hne bi hl.2.2.2.1)).trans h.it), ho.keep fun a ha => hset _ ?_, (h.o2.keep (w' := w3) fun a ha => hsame _ (h.o2.lt a ha).2 ?_).keep fun a ha => hset _ ?_, ?_, ?_⟩, fun V hV => ?_⟩
  · have := (ho.lt a ha).1; omega
  · intro e
    cases A1 with
    | none => cases e
    | some b => simp at e; exact h.ne b a rfl ha e.symm
  · have := (h.o2.lt a ha).1; omega
  · intro a b ha hb
    rcases hA with e | e
    · exact h.ne a b (by rw [← e]; exact ha) hb
    · rw [e] at ha; injection ha with ha; subst ha
      have := (h.o2.lt b hb).2
      simp only; omega
  · have := hg.size
    simp [World.setCell]; omega
  · refine (below_app (hV.alloc (by have := hl; omega) o) hg (by have := hl; omega) (fun a ha => by have := (h.o1.lt a ha).1; omega)).setCell (p := ⟨bt, 0, none⟩) hl.1 _
/-- The second list longer by one. -/
theorem ScM.more2 (h : ScM w t B base bt bi s q tl A1 n1 c1 A2 n2 c2 P C) {o : Obj} {x : Int} {A3 : Option Addr} {c3 : Nat} {w3 : World} (ho : Own w3 base 3 1 A3 (n2 + 1) c3 ((C ++ [x]).map encZ)) (hg : (w.alloc o).grownBy w3 (A2.map (·.block))) (hA : A3 = A2 ∨ A3 = some ⟨(w.alloc o).heap.size, 0, none⟩) :
    Blk w3 bt t (Value.slice A1 n1 c1 :: Value.slice A2 n2 c2 :: tl).toArray ∧ ScM (w3.setCell ⟨bt, 1, none⟩ (.slice A3 (n2 + 1) c3)) t B base bt bi s q tl A1 n1 c1 A3 (n2 + 1) c3 P (C ++ [x]) ∧ (∀ (V : World), Below B V w → Below B V (w3.setCell ⟨bt, 1, none⟩ (.slice A3 (n2 + 1) c3))) := by
  have hl := h.lt
  have hz : (w.alloc o).heap.size = w.heap.size + 1 := by simp
  have hne : ∀ b, b < base → some b ≠ A2.map (·.block) := fun b hb e => by
    cases A2 with
    | none => cases e
    | some a => have := (h.o2.lt a rfl).1; simp at e; omega
  have hsame : ∀ b, b < w.heap.size → some b ≠ A2.map (·.block) → w3.heap[b]? = w.heap[b]? := fun b hb e => (hg.block b (by omega) e).trans (Below.heap_alloc w o b hb)
  have hk : Blk w3 bt t (Value.slice A1 n1 c1 :: Value.slice A2 n2 c2 :: tl).toArray := (hsame bt h.blk.lt (hne bt hl.2.1)).trans h.blk
  have hset : ∀ b, b ≠ bt → (w3.setCell ⟨bt, 1, none⟩ (.slice A3 (n2 + 1) c3)).heap[b]? = w3.heap[b]? := fun b hb => Below.heap_setCell w3 ⟨bt, 1, none⟩ _ b hb
  refine ⟨hk, ⟨by have := hk.set_ 1 (.slice A3 (n2 + 1) c3); simpa using this, (hset bi (Ne.symm hl.2.2.2.2.1)).trans ((hsame bi (Array.getElem?_eq_some_iff.1 h.it).1 (hne bi hl.2.2.2.1)).trans h.it), (h.o1.keep (w' := w3) fun a ha => hsame _ (h.o1.lt a ha).2 ?_).keep fun a ha => hset _ ?_, ho.keep fun a ha => hset _ ?_, ?_, ?_⟩, fun V hV => ?_⟩
  · intro e
    cases A2 with
    | none => cases e
    | some b => simp at e; exact h.ne a b ha rfl e
  · have := (h.o1.lt a ha).1; omega
  · have := (ho.lt a ha).1; omega
  · intro a b ha hb
    rcases hA with e | e
    · exact h.ne a b ha (by rw [← e]; exact hb)
    · rw [e] at hb; injection hb with hb; subst hb
      have := (h.o1.lt a ha).2
      simp only; omega
  · have := hg.size
    simp [World.setCell]; omega
  · refine (below_app (hV.alloc (by have := hl; omega) o) hg (by have := hl; omega) (fun a ha => by have := (h.o2.lt a ha).1; omega)).setCell (p := ⟨bt, 1, none⟩) hl.1 _
end

theorem res_scan (w : World) (b : Nat) (tmps : Array Value) (ht : tmps.getD 2 undef = .pointer (some ⟨b, 0, none⟩)) {A1 A2 : Option Addr} {n1 c1 n2 c2 : Nat} {z : Int} (h : Blk w b 75 #[.slice A1 n1 c1, .slice A2 n2 c2, .int .i64 z]) :
    (results Tryz.f70 tmps).run Tryz.prog w = .ok (.agg #[.slice A1 n1 c1, .slice A2 n2 c2, .int .i64 z]) w := by
  have ht' : tmps[2]?.getD undef = .pointer (some ⟨b, 0, none⟩) := by simpa [Array.getD_eq_getD_getElem?] using ht
  have h0 := h.cell 0
  have h1 := h.cell 1
  have h2 := h.cell 2
  simp only [List.getElem?_toArray, List.getElem?_cons_zero, List.getElem?_cons_succ] at h0 h1 h2
  simp [results, Tryz.results70, go_sem, ht', h0, h1, h2]
set_option maxRecDepth 100000 in
set_option maxHeartbeats 8000000 in
theorem kscan_any (s : ByteArray) (w : World) (hE : Env w) (hs : s.size ≤ 1000000) :
    Calls Tryz.prog 70 #[.string s] w fun e w' => ∃ A1 n1 c1 A2 n2 c2, e = .returned (.agg #[.slice A1 n1 c1, .slice A2 n2 c2, .int .i64 s.size]) ∧ Own w' w.heap.size 3 1 A1 n1 c1 (((runesP s).map (·.2.1)).map encN) ∧
      Own w' w.heap.size 3 1 A2 n2 c2 ((wCls gW s).map encZ) ∧ Below w.heap.size w w' := by
  obtain ⟨i0, hi0, hz0, hz1, hz2⟩ := info_parts infoInt
  have hB0 : Below w.heap.size w (w.alloc (.cells #[.slice none 0 0, .slice none 0 0, .int .i64 0] 75)) := (Below.refl _ _).alloc (Nat.le_refl _) _
  have hR0 := Blk.new w 75 #[.slice none 0 0, .slice none 0 0, .int .i64 0]
  have hE0 := hE.below hB0
  go_enter Tryz.func70, Tryz.ntmps70
  generalize hT : ByteArray.mk _ = T
  have HN : newP T.data.toList = .ok wordD := by rw [← hT]; exact new_K (by kernel_rfl) (by kernel_rfl)
  have hTl : T.data.toList.length ≤ maxLen := by rw [← hT]; exact of_decide_eq_true (by kernel_rfl)
  clear hT
  have HC := wNew_any T.data.toList _ hE0 hTl
  rw [HN, bytes_is] at HC
  replace HC := Lib.hid HC
  clear HN hTl
  go_wp2_with fail
  refine HC.out.mono ?_
  rintro e w1 ⟨⟨p, rfl, hd⟩, hb1⟩
  clear HC
  have hR1 := hR0.below hb1
  have hB1 : Below w.heap.size w w1 := hB0.trans (hb1.mono (by simp))
  have hsz1 : w.heap.size < w1.heap.size := hR1.lt
  clear hR0 hB0 hE0 hb1
  have hM0 : ScM ((w1.alloc (.cells #[.slice none 0 0, .slice none 0 0, .int .i64 s.size] 75)).iter s 0) 75 w1.heap.size (w1.heap.size + 2) w1.heap.size (w1.heap.size + 1) s 0 [.int .i64 s.size] none 0 0 none 0 0 [] [] :=
    ⟨(Blk.new w1 _ _).alloc _, (by have := iter_new (w1.alloc (.cells #[.slice none 0 0, .slice none 0 0, .int .i64 s.size] 75)) s 0; simpa using this), Own.nil_ _ _ _ _, Own.nil_ _ _ _ _, fun _ _ h => (by cases h), (by unfold World.iter; simp)⟩
  have hB2 : Below w1.heap.size w1 ((w1.alloc (.cells #[.slice none 0 0, .slice none 0 0, .int .i64 s.size] 75)).iter s 0) := below_iter ((Below.refl _ _).alloc (Nat.le_refl _) _) (by simp) _ _
  have HA0 := Lib.hid (scAt_first gW s)
  have HD := Lib.hid hd
  clear hd hE
  go_wp2_with fail
  go_loopw [7] (fun _ wr => ∃ (q f : Nat) (A1 : Option Addr) (n1 c1 : Nat) (A2 : Option Addr) (n2 c2 : Nat) (P : List Nat) (C : List Int), ScM wr 75 w1.heap.size (w1.heap.size + 2) w1.heap.size (w1.heap.size + 1) s q [.int .i64 s.size] A1 n1 c1 A2 n2 c2 P C ∧
      n1 ≤ q ∧ n2 ≤ q ∧ q ≤ s.size ∧ Hid (ScAt gW s f q P C) ∧ Below w1.heap.size w1 wr) (fun _ wr => s.size - wr.iterPos (w1.heap.size + 1))
  case atStart => exact ⟨0, s.size, none, 0, 0, none, 0, 0, [], [], hM0, by omega, by omega, by omega, HA0, hB2⟩
  case round =>
    clear hM0 hB2 HA0
    obtain ⟨q, f, A1, n1, c1, A2, n2, c2, P, C, hM, hn1, hn2, hq, HA, hb⟩ := hrel
    have hit := hM.it
    have Hpos := Lib.hid (iterPos_of hit)
    by_cases hp : q < s.size
    · obtain ⟨⟨R, W⟩, HDc⟩ : ∃ d, Utf8.decode s q = d := ⟨_, rfl⟩
      have hd := dec_bd s q hp
      have hnx : ∀ ty, (Instr.next (.pointer (some ⟨w1.heap.size + 1, 0, none⟩)) true ty).run Tryz.prog wr = _ := fun ty => Lib.run_next_any_at wr (w1.heap.size + 1) s q ty hit hp
      have hM2 := hM.iterAt (q + (Utf8.decode s q).2)
      have hb2 := Lib.below_iterAt hb (k := w1.heap.size + 1) (by omega) s (q + (Utf8.decode s q).2)
      rw [HDc] at hd hnx hM2 hb2
      simp only at hd hnx hM2 hb2
      obtain ⟨g, HA'⟩ := scAt_add HA.out hp HDc (by omega)
      have HA' := Lib.hid HA'
      clear HA HDc hM hb hit
      generalize wr.iterAt (w1.heap.size + 1) s (q + W) = w2 at hnx hM2 hb2
      have k0 := hM2.blk.cell 0
      simp only [List.getElem?_toArray, List.getElem?_cons_zero] at k0
      have hsz2 := hM2.lt.2.2.2.2.2
      go_upto_region 7 with (at_builtin; go_must (refine wpList_app rfl (.tmp 24) (.tmp 26) _ rfl (w1.heap.size + 2) 3 i0 _ 1 8 Tryz.underlying35 hi0 hz0 hz1 hz2 rfl (by omega) A1 n1 c1 (P.map encN) rfl (hM2.o1.alloc _) _ 1 1 [encN q] rfl rfl (Rd.newAt (by simp) rfl) (encN_ok [q]) (by unfold maxLen; omega) (by omega) (by simp; omega) ?_); intro A3 c3 w3 ho3 hg3 hA3; have HM := hM2.more1 (x := q) (by rw [List.map_append]; exact ho3) hg3 hA3; have k3 := HM.1.cell 0; have f3 := HM.1.frozen 0; simp only [List.getElem?_toArray, List.getElem?_cons_zero] at k3)
      have hM5 := HM.2.1
      have hb5 := HM.2.2 _ hb2
      clear HM k3 f3 hg3 ho3 hA3 hM2 hb2 hnx k0
      generalize w3.setCell ⟨w1.heap.size, 0, none⟩ (.slice A3 (n1 + 1) c3) = w5 at hM5 hb5 ⊢
      have k5 := hM5.blk.cell 1
      simp only [List.getElem?_toArray, List.getElem?_cons_zero, List.getElem?_cons_succ] at k5
      have HG := Lib.hid (wGet_any p wordD R w5.drew ((HD.out.below hb5).drewN 1) wordOk.1 wordOk.2.1)
      have hsz5 := hM5.lt.2.2.2.2.2
      go_wp2_with fail
      refine wp_region_last (S := fun V => V.cell? ⟨w1.heap.size, 1, none⟩ = some (.slice A2 n2 c2)) 8 rfl (by kernel_rfl) (by kernel_rfl) (by kernel_rfl) k5 (fun hHeld => ?_)
      simp only [List.dropLast_cons_cons, List.dropLast_singleton]
      refine wpAnyH_take (i := 0) (v := ?_) rfl (by kernel_rfl) (by kernel_rfl) (by kernel_rfl) (fun _ _ _ h => h) (Or.inl ⟨by rfl, ?_⟩) (by assumption) ?_; rotate_left; focus ((intro w hSw; (try dsimp only at hSw); go_simp); try with_reducible rfl)
      (try simp only [Act.put, List.getElem_toArray, List.getElem_cons_zero, List.setIfInBounds_toArray, List.set_cons_zero, List.set_cons_succ])
      refine wpAnyH_take (i := 1) (v := ?_) rfl (by kernel_rfl) (by kernel_rfl) (by kernel_rfl) (fun _ _ _ h => h) (Or.inl ⟨by rfl, ?_⟩) (by assumption) ?_; rotate_left; focus ((intro w hSw; (try dsimp only at hSw); go_simp); try with_reducible rfl)
      (try simp only [Act.put, List.getElem_toArray, List.getElem_cons_succ, List.getElem_cons_zero, List.setIfInBounds_toArray, List.set_cons_zero, List.set_cons_succ])
      refine wpAnyH_take (i := 2) (v := ?_) rfl (by kernel_rfl) (by kernel_rfl) (by kernel_rfl) (fun _ _ _ h => h) (Or.inl ⟨by rfl, ?_⟩) (by assumption) ?_; rotate_left; focus ((intro w hSw; (try dsimp only at hSw); go_simp); try with_reducible rfl)
      (try simp only [Act.put, List.getElem_toArray, List.getElem_cons_succ, List.getElem_cons_zero, List.setIfInBounds_toArray, List.set_cons_zero, List.set_cons_succ])
      refine wpAnyH_take (i := 3) (v := ?_) rfl (by kernel_rfl) (by kernel_rfl) (by kernel_rfl) (fun _ _ _ h => h) (Or.inl ⟨by rfl, ?_⟩) (by assumption) ?_; rotate_left; focus ((intro w hSw; (try dsimp only at hSw); go_simp); try with_reducible rfl)
      (try simp only [Act.put, List.getElem_toArray, List.getElem_cons_succ, List.getElem_cons_zero, List.setIfInBounds_toArray, List.set_cons_zero, List.set_cons_succ])
      refine wpAnyH_ready (rs := [4]) (by kernel_rfl) (by simp) ?_
      refine AllReadyH.cons rfl (fun K hK => ?_) AllReadyH.nil
      go_simp
      refine HG.out.mono ?_
      rintro e wz ⟨rfl, hbz⟩
      have hMz := (hM5.below (w' := w5.drew) (Below.refl _ _).drew).below hbz
      have hbbz := below_step (below_drewN hb5 1) hbz hb5.size
      have kz := hMz.blk.cell 1
      simp only [List.getElem?_toArray, List.getElem?_cons_zero, List.getElem?_cons_succ] at kz
      have hszz := hMz.lt.2.2.2.2.2
      refine hK.out _ _ kz (fun hHeld => ?_)
      clear hK K
      refine wpAnyH_ready (rs := [5]) (by kernel_rfl) (by simp) ?_
      refine AllReadyH.cons rfl (fun K hK => ?_) AllReadyH.nil
      go_simp
      refine hK.out _ _ (cell_keep kz ((Below.refl _ _).alloc (Nat.le_refl _) _)) (fun hHeld => ?_)
      clear hK K
      refine wpAnyH_ready (rs := [6]) (by kernel_rfl) (by simp) ?_
      refine AllReadyH.cons rfl (fun K hK => ?_) AllReadyH.nil
      refine step_app rfl (.tmp 30) (.tmp 34) _ rfl (w1.heap.size + 2) 3 i0 _ 1 8 Tryz.underlying35 hi0 hz0 hz1 hz2 rfl (by omega) A2 n2 c2 (C.map encZ) rfl (hMz.o2.alloc _) _ 1 1 [encZ (gW R : Int)] rfl rfl (Rd.newAt (by simp) rfl) (encZ_ok [(gW R : Int)]) (by unfold maxLen; omega) (by omega) (by simp; omega) ?_
      intro A4 c4 w4 ho4 hg4 hA4
      have HM := hMz.more2 (x := (gW R : Int)) (by rw [List.map_append]; exact ho4) hg4 hA4
      have k4 := HM.1.cell 1
      have f4 := HM.1.frozen 1
      simp only [List.getElem?_toArray, List.getElem?_cons_zero, List.getElem?_cons_succ] at k4
      refine hK.out _ _ k4 (fun hHeld => ?_)
      clear hK K
      refine wpAnyH_take (i := 7) (v := ?_) rfl (by kernel_rfl) (by kernel_rfl) (by kernel_rfl) (fun _ _ _ h => h) (Or.inl ⟨by rfl, ?_⟩) (by assumption) ?_; rotate_left; focus ((intro w hSw; (try dsimp only at hSw); go_simp); try with_reducible rfl)
      (try simp only [Act.put, List.getElem_toArray, List.getElem_cons_succ, List.getElem_cons_zero, List.setIfInBounds_toArray, List.set_cons_zero, List.set_cons_succ])
      refine wpAnyH_done (by kernel_rfl) ?_ _
      refine tailQ_end (wpOp_step (i := 8) rfl (fun K hK => ?_))
      go_simp
      refine hK _ _ ?_
      clear hK K
      have hM6 := HM.2.1
      have hb6 := HM.2.2 _ hbbz
      go_wp2
      go_roundw
      case rel => exact ⟨q + W, g, _, _, _, _, _, _, P ++ [q], C ++ [(gW R : Int)], hM6, by omega, by omega, by omega, HA', hb6⟩
      case measure => rw [iterPos_of hM6.it, Hpos.out]; omega
    · have hnx : ∀ ty, (Instr.next (.pointer (some ⟨w1.heap.size + 1, 0, none⟩)) true ty).run Tryz.prog wr = _ := fun ty => Lib.run_next_end_at wr (w1.heap.size + 1) s q ty hit hp
      have HE := Lib.hid (scAt_end HA.out hp)
      have hRr := hR1.below hb
      have k0 := hM.blk.cell 0
      have k1 := hM.blk.cell 1
      have k2 := hM.blk.cell 2
      have r0 := hRr.cell 0
      have r1 := hRr.cell 1
      have r2 := hRr.cell 2
      have g0 := hRr.frozen 0
      have g1 := hRr.frozen 1
      have g2 := hRr.frozen 2
      simp only [List.getElem?_toArray, List.getElem?_cons_zero, List.getElem?_cons_succ] at k0 k1 k2 r0 r1 r2
      go_wp2
      have hl1 : ∀ a, A1 = some a → a.block ≠ w.heap.size := fun a ha => by have := (hM.o1.lt a ha).1; omega
      have hl2 : ∀ a, A2 = some a → a.block ≠ w.heap.size := fun a ha => by have := (hM.o2.lt a ha).1; omega
      have hBk := ((hRr.set_ 0 (.slice A1 n1 c1)).set_ 1 (.slice A2 n2 c2)).set_ 2 (.int .i64 s.size)
      have ho1 := ((((hM.o1.setCell (p := ⟨w.heap.size, 0, none⟩) hl1 (.slice A1 n1 c1)).setCell (p := ⟨w.heap.size, 1, none⟩) hl1 (.slice A2 n2 c2)).setCell (p := ⟨w.heap.size, 2, none⟩) hl1 (.int .i64 s.size)).more (b' := w.heap.size) (by omega))
      have ho2 := ((((hM.o2.setCell (p := ⟨w.heap.size, 0, none⟩) hl2 (.slice A1 n1 c1)).setCell (p := ⟨w.heap.size, 1, none⟩) hl2 (.slice A2 n2 c2)).setCell (p := ⟨w.heap.size, 2, none⟩) hl2 (.int .i64 s.size)).more (b' := w.heap.size) (by omega))
      have hbb := (((below_step hB1 hb hB1.size).setCell (p := ⟨w.heap.size, 0, none⟩) (Nat.le_refl _) (.slice A1 n1 c1)).setCell (p := ⟨w.heap.size, 1, none⟩) (Nat.le_refl _) (.slice A2 n2 c2)).setCell (p := ⟨w.heap.size, 2, none⟩) (Nat.le_refl _) (.int .i64 s.size)
      rw [HE.out.1] at ho1
      rw [HE.out.2] at ho2
      refine bodyPost_ret (res_scan _ w.heap.size _ rfl (by simpa using hBk)) rfl ?_
      exact ⟨_, _, _, _, _, _, rfl, ho1, ho2, hbb⟩
end Go.Proofs.YthlnfefpdmecaaaGreatDoor

/-
  PLAIN: lines: behind a line's end a text begins anew; behind blanks. No walk.
-/
namespace Go.Proofs.YthlnfefpdmecaaaGreatDoor

/- What is known of a place hangs on what stands ahead of it, its own rune, and the next. -/
theorem lPast_congr {c d : List Int} (k : Int) : ∀ (n : Nat), (∀ i, i < n → c.getD i 0 = d.getD i 0) → lPast c k n = lPast d k n
  | 0, _ => rfl
  | n + 1, h => by
    unfold lPast
    rw [h n (by omega), lPast_congr k n (fun i hi => h i (by omega))]
theorem lLast_congr {c d : List Int} {n : Nat} (h : ∀ i, i < n → c.getD i 0 = d.getD i 0) : lLast c n = lLast d n := by
  unfold lLast
  by_cases h0 : n = 0
  · rw [if_pos h0, if_pos h0]
  · rw [if_neg h0, if_neg h0, h (n - 1) (by omega)]
theorem lRegGo_congr {c d : List Int} : ∀ (f n : Nat), (∀ i, i < n → c.getD i 0 = d.getD i 0) → lRegGo c f n = lRegGo d f n
  | 0, _, _ => rfl
  | f + 1, n, h => by
    have hp := lPast_congr 8 (n - 1) (c := c) (d := d) (fun i hi => h i (by omega))
    have hle := lPast_le d 8 (n - 1)
    unfold lRegGo
    rw [lLast_congr h, hp, lRegGo_congr f _ (fun i hi => h i (by omega))]
theorem lNum_congr {c d : List Int} {n : Nat} (h : ∀ i, i < n → c.getD i 0 = d.getD i 0) : lNum c n = lNum d n := by
  unfold lNum
  dsimp only
  have l1 := lPast_le d 8 n
  rw [lPast_congr 8 n h, lLast_congr (n := lPast d 8 n) (fun i hi => h i (by omega)), lPast_congr 8 (lPast d 8 n - 1) (fun i hi => h i (by omega))]
  generalize hn2 : (if [11, 10].contains (lLast d (lPast d 8 n)) = true then lPast d 8 (lPast d 8 n - 1) else lPast d 8 n) = n2
  have l2 : n2 ≤ n := by
    have := lPast_le d 8 (lPast d 8 n - 1)
    rw [← hn2]; split <;> omega
  rw [lLast_congr (n := n2) (fun i hi => h i (by omega)), lPast_congr 8 (n2 - 1) (fun i hi => h i (by omega))]
  generalize hn3 : (if [14, 15].contains (lLast d n2) = true then lPast d 8 (n2 - 1) else n2) = n3
  have l3 : n3 ≤ n := by
    have := lPast_le d 8 (n2 - 1)
    rw [← hn3]; split <;> omega
  rw [lLast_congr (n := n3) (fun i hi => h i (by omega))]
theorem lOver_congr {c d : List Int} {i : Nat} (q : Int) (h : ∀ k, k < i → c.getD k 0 = d.getD k 0) : lOver c i q = lOver d i q := by
  unfold lOver
  have l1 := lPast_le d 4 i
  have l2 := lPast_le d 8 (lPast d 4 i)
  rw [lPast_congr 4 i h, lPast_congr 8 _ (fun k hk => h k (by omega)), lLast_congr (n := lPast d 8 (lPast d 4 i)) (fun k hk => h k (by omega))]
theorem lLetters_congr {c d : List Int} {i : Nat} (b q : Int) (h : ∀ k, k < i + 2 → c.getD k 0 = d.getD k 0) (hl : decide (i + 1 < c.length) = decide (i + 1 < d.length)) : lLetters c i b q = lLetters d i b q := by
  unfold lLetters lReg
  have l1 := lPast_le d 8 i
  rw [lNum_congr (fun k hk => h k (by omega)), hl, h (i + 1) (by omega), lPast_congr 8 i (fun k hk => h k (by omega)), lRegGo_congr _ _ (fun k hk => h k (by omega))]
theorem lCut_congr {c d : List Int} {i : Nat} (h : ∀ k, k < i + 2 → c.getD k 0 = d.getD k 0) (hl : decide (i + 1 < c.length) = decide (i + 1 < d.length)) : lCut c i = lCut d i := by
  unfold lCut
  dsimp only
  have l1 := lPast_le d 8 i
  have l2 := lPast_le d 4 i
  rw [h (i - 1) (by omega), h i (by omega), lPast_congr 8 i (fun k hk => h k (by omega)), lPast_congr 4 i (fun k hk => h k (by omega)), lLast_congr (n := lPast d 8 i) (fun k hk => h k (by omega)), lLast_congr (n := lPast d 4 i) (fun k hk => h k (by omega)), lOver_congr _ (fun k hk => h k (by omega)), lLetters_congr _ _ h hl]

section
variable {A B : List Int} {e : Int}
theorem gl_left {i : Nat} (h : i < A.length) : (A ++ e :: B).getD i 0 = A.getD i 0 := by
  rw [List.getD_eq_getElem?_getD, List.getD_eq_getElem?_getD, List.getElem?_append_left h]
theorem gl_mid : (A ++ e :: B).getD A.length 0 = e := by
  rw [List.getD_eq_getElem?_getD, List.getElem?_append_right (Nat.le_refl _), Nat.sub_self]; rfl
theorem gl_right (j : Nat) : (A ++ e :: B).getD (A.length + 1 + j) 0 = B.getD j 0 := by
  rw [List.getD_eq_getElem?_getD, List.getD_eq_getElem?_getD, List.getElem?_append_right (by omega), show A.length + 1 + j - A.length = j + 1 by omega, List.getElem?_cons_succ]
/-- Ahead of a line's end what stands behind it does not count. -/
theorem lCut_left (he : e = 1 ∨ e = 3) {i : Nat} (h : i ≤ A.length) (h1 : 1 ≤ i) : lCut (A ++ e :: B) i = lCut (A ++ [e]) i := by
  rcases Nat.lt_or_ge i A.length with hlt | hge
  · refine lCut_congr (fun k hk => ?_) ?_
    · rcases Nat.lt_or_ge k A.length with h2 | h2
      · rw [gl_left h2, gl_left h2]
      · obtain rfl : k = A.length := by omega
        rw [gl_mid, gl_mid]
    · rw [List.length_append, List.length_append, List.length_cons, List.length_cons, decide_eq_true (by omega), decide_eq_true (by omega)]
  · obtain rfl : i = A.length := by omega
    obtain ⟨m, hm⟩ : ∃ m, A.length = m + 1 := ⟨A.length - 1, by omega⟩
    have g1 := gl_mid (A := A) (e := e) (B := B); have g2 := gl_mid (A := A) (e := e) (B := [])
    have p1 := gl_left (A := A) (e := e) (B := B) (i := m) (by omega); have p2 := gl_left (A := A) (e := e) (B := []) (i := m) (by omega)
    rw [hm] at g1 g2 ⊢
    have hq : [1, 2, 3, 4, 5].contains e = true := by rcases he with rfl | rfl <;> rfl
    cases hmu : lMust (A.getD m 0) with
    | true => rw [lCut_end (by rw [p1]; exact hmu), lCut_end (by rw [p2]; exact hmu), g1, g2, p1, p2]
    | false => rw [lCut_blank (by rw [p1]; exact hmu) (by rw [g1]; exact hq), lCut_blank (by rw [p2]; exact hmu) (by rw [g2]; exact hq)]
theorem lPast_right (he : e = 1 ∨ e = 3) {k : Int} (hk : k = 8 ∨ k = 4) : ∀ (j : Nat), lPast (A ++ e :: B) k (A.length + 1 + j) = A.length + 1 + lPast B k j
  | 0 => by
    show lPast _ k (A.length + 1) = _
    rw [lPast_here (by rw [gl_mid]; omega)]; rfl
  | j + 1 => by
    show lPast _ k ((A.length + 1 + j) + 1) = _
    rw [lPast, gl_right, lPast_right he hk j, lPast]
    split
    · rfl
    · omega
theorem lLast_right (n : Nat) : lLast (A ++ e :: B) (A.length + 1 + n) = if n = 0 then e else lLast B n := by
  cases n with
  | zero => rw [if_pos rfl]; show lLast _ (A.length + 1) = _; rw [lLast_succ, gl_mid]
  | succ n => rw [if_neg (by omega), show A.length + 1 + (n + 1) = (A.length + 1 + n) + 1 by omega, lLast_succ, lLast_succ, gl_right]
/-- What the last of none is counts as little as a line's end. -/
theorem lLast_for {α : Type} (f : Int → α) (he : f e = f (-1)) (n : Nat) : f (lLast (A ++ e :: B) (A.length + 1 + n)) = f (lLast B n) := by
  rw [lLast_right]
  split
  · rename_i h; subst h; rw [he]; rfl
  · rfl
theorem lRegGo_fuel (c : List Int) : ∀ (f g n : Nat), n < f → n < g → lRegGo c f n = lRegGo c g n
  | 0, _, _, h, _ => by omega
  | _, 0, _, _, h => by omega
  | f + 1, g + 1, n, hf, hg => by
    unfold lRegGo
    split
    · rename_i h
      have h0 : n ≠ 0 := fun e => by subst e; simp [lLast] at h
      have := lPast_le c 8 (n - 1)
      rw [lRegGo_fuel c f g _ (by omega) (by omega)]
    · rfl
theorem lRegGo_right (he : e = 1 ∨ e = 3) : ∀ (f n : Nat), lRegGo (A ++ e :: B) f (A.length + 1 + n) = lRegGo B f n
  | 0, _ => rfl
  | f + 1, n => by
    unfold lRegGo
    rw [lLast_right]
    by_cases h0 : n = 0
    · subst h0
      rw [if_pos rfl, if_neg (by omega), if_neg (by simp [lLast])]
    · rw [if_neg h0, show A.length + 1 + n - 1 = A.length + 1 + (n - 1) by omega, lPast_right he (.inl rfl), lRegGo_right he f]
theorem lReg_right (he : e = 1 ∨ e = 3) (n : Nat) : lReg (A ++ e :: B) (A.length + 1 + n) = lReg B n := by
  unfold lReg
  have := lPast_le B 8 n
  rw [lPast_right he (.inl rfl), lRegGo_right he, lRegGo_fuel B _ (n + 1) _ (by omega) (by omega)]
theorem lNum_right (he : e = 1 ∨ e = 3) (n : Nat) : lNum (A ++ e :: B) (A.length + 1 + n) = lNum B n := by
  unfold lNum
  dsimp only
  have step : ∀ (L : List Int) (m : Nat), (L.contains e = false) → (L.contains (-1) = false) →
      (if L.contains (lLast (A ++ e :: B) (A.length + 1 + m)) = true then lPast (A ++ e :: B) 8 (A.length + 1 + m - 1) else A.length + 1 + m) = A.length + 1 + (if L.contains (lLast B m) = true then lPast B 8 (m - 1) else m) := by
    intro L m h1 h2
    rw [lLast_for (fun x => L.contains x) (by simp only [h1, h2]) m]
    split
    · rename_i h
      have h0 : m ≠ 0 := fun e0 => by subst e0; simp only [lLast, if_true] at h; rw [h2] at h; cases h
      rw [show A.length + 1 + m - 1 = A.length + 1 + (m - 1) by omega, lPast_right he (.inl rfl)]
    · rfl
  rw [lPast_right he (.inl rfl), step [11, 10] _ (by rcases he with rfl | rfl <;> rfl) rfl, step [14, 15] _ (by rcases he with rfl | rfl <;> rfl) rfl]
  exact lLast_for (fun x => x == 20) (by rcases he with rfl | rfl <;> rfl) _
/-- Behind a line's end a text begins anew. -/
theorem lCut_right (he : e = 1 ∨ e = 3) (j : Nat) : lCut (A ++ e :: B) (A.length + 1 + (j + 1)) = lCut B (j + 1) := by
  unfold lCut
  dsimp only
  rw [show A.length + 1 + (j + 1) - 1 = A.length + 1 + j by omega, show j + 1 - 1 = j from rfl, gl_right, gl_right, lPast_right he (.inl rfl), lPast_right he (.inr rfl)]
  have hzw : (lLast (A ++ e :: B) (A.length + 1 + lPast B 4 (j + 1)) = 5) = (lLast B (lPast B 4 (j + 1)) = 5) := lLast_for (fun x => x = 5) (by rcases he with rfl | rfl <;> simp) _
  have hgl := lLast_for (A := A) (B := B) (e := e) (fun x => lGlued (B.getD j 0) x (B.getD (j + 1) 0)) (by rcases he with rfl | rfl <;> simp [lGlued]) (lPast B 8 (j + 1))
  have hov : lOver (A ++ e :: B) (A.length + 1 + (j + 1)) (B.getD (j + 1) 0) = lOver B (j + 1) (B.getD (j + 1) 0) := by
    unfold lOver
    rw [lPast_right he (.inr rfl), lPast_right he (.inl rfl)]
    exact lLast_for (fun x => x == 9 || x == 12 && B.getD (j + 1) 0 == 9 || [11, 10].contains x && B.getD (j + 1) 0 == 24 || x == 18 && B.getD (j + 1) 0 == 18) (by rcases he with rfl | rfl <;> simp) _
  have hle : lLetters (A ++ e :: B) (A.length + 1 + (j + 1)) (lLast (A ++ e :: B) (A.length + 1 + lPast B 8 (j + 1))) (B.getD (j + 1) 0) = lLetters B (j + 1) (lLast B (lPast B 8 (j + 1))) (B.getD (j + 1) 0) := by
    unfold lLetters
    rw [lNum_right he, lReg_right he, show A.length + 1 + (j + 1) + 1 = A.length + 1 + (j + 1 + 1) by omega, gl_right]
    have hd : decide (A.length + 1 + (j + 1 + 1) < (A ++ e :: B).length) = decide (j + 1 + 1 < B.length) := by
      rw [List.length_append, List.length_cons, decide_eq_decide]; omega
    rw [hd]
    exact lLast_for (fun x => ([12, 17, 16, 24, 19].contains (B.getD (j + 1) 0) || x == 12 || lPairs x (B.getD (j + 1) 0)) || ([21, 22].contains (B.getD (j + 1) 0) && lNum B (j + 1)) ||
      ([21, 22].contains x && (B.getD (j + 1) 0 == 20 || [9, 16].contains (B.getD (j + 1) 0) && decide (j + 1 + 1 < B.length) && B.getD (j + 1 + 1) 0 == 20)) || (B.getD (j + 1) 0 == 25 && lReg B (j + 1) % 2 == 1)) (by rcases he with rfl | rfl <;> simp [lPairs]) _
  rw [hgl, hov, hle]
  simp only [hzw]
theorem lCut_begin (he : e = 1 ∨ e = 3) : lCut (A ++ e :: B) (A.length + 1) = true := by
  rw [lCut_end (by rw [gl_mid]; rcases he with rfl | rfl <;> rfl), gl_mid, decide_eq_false (by omega)]; rfl
end
end Go.Proofs.YthlnfefpdmecaaaGreatDoor

/-
  PLAIN: letters: where a text is cut by the classes of its runes; what is never cut; a text's beginning. No walk.
-/
namespace Go.Proofs.YthlnfefpdmecaaaGreatDoor

def endG (c : Nat) : Bool := c == 1 || c == 2 || c == 3
/-- Two classes side by side that are never parted. -/
def joinG (x y : Nat) : Bool :=
  if x = 1 ∧ y = 2 then true
  else if endG x || endG y then false
  else if y == 4 || y == 5 || y == 6 || x == 7 then true
  else if x = 8 then y == 8 || y == 9 || y == 11
  else if x = 9 ∨ x = 11 then y == 9 || y == 10
  else x == 10 && y == 10
/-- What is known ahead of a rune. -/
structure GS where
  prev : Nat
  pict : Bool
  joined : Bool
  flags : Nat
def GS.cut (st : GS) (y : Nat) : Bool := !(joinG st.prev y || st.joined && y == 12 || y == 13 && st.flags % 2 == 1)
def GS.next (st : GS) (y : Nat) : GS := ⟨y, y == 12 || st.pict && y == 4, st.pict && y == 5, if y = 13 then st.flags + 1 else 0⟩
def GS.first (y : Nat) : GS := ⟨y, y == 12, false, if y = 13 then 1 else 0⟩
def cutSt : GS → List Nat → List Bool
  | _, [] => []
  | st, y :: r => st.cut y :: cutSt (st.next y) r
/-- Ahead of which runes a text is cut. -/
def cutsG : List Nat → List Bool
  | [] => []
  | y :: r => true :: cutSt (GS.first y) r
def stOf : GS → List Nat → GS
  | st, [] => st
  | st, y :: r => stOf (st.next y) r
theorem stOf_snoc : ∀ (st : GS) (l : List Nat) (y : Nat), stOf st (l ++ [y]) = (stOf st l).next y
  | _, [], _ => rfl
  | st, z :: l, y => stOf_snoc (st.next z) l y
theorem cutSt_snoc : ∀ (st : GS) (l : List Nat) (y : Nat), cutSt st (l ++ [y]) = cutSt st l ++ [(stOf st l).cut y]
  | _, [], _ => rfl
  | st, z :: l, y => by rw [List.cons_append, cutSt, cutSt_snoc (st.next z) l y]; rfl
theorem cutSt_len : ∀ (st : GS) (l : List Nat), (cutSt st l).length = l.length
  | _, [] => rfl
  | st, y :: r => by rw [cutSt, List.length_cons, cutSt_len (st.next y) r, List.length_cons]
theorem cutsG_len (l : List Nat) : (cutsG l).length = l.length := by
  cases l with
  | nil => rfl
  | cons y r => rw [cutsG, List.length_cons, cutSt_len, List.length_cons]
theorem cutSt_take : ∀ (st : GS) (l : List Nat) (k : Nat), cutSt st (l.take k) = (cutSt st l).take k
  | _, [], k => by simp [cutSt]
  | st, y :: r, 0 => by simp [cutSt]
  | st, y :: r, k + 1 => by rw [List.take_succ_cons, cutSt, cutSt, List.take_succ_cons, cutSt_take (st.next y) r k]
theorem cutsG_take (l : List Nat) (k : Nat) : cutsG (l.take k) = (cutsG l).take k := by
  cases l with
  | nil => simp [cutsG]
  | cons y r =>
    cases k with
    | zero => simp [cutsG]
    | succ k => rw [List.take_succ_cons, cutsG, cutsG, List.take_succ_cons, cutSt_take]
/-- What the state keeps. -/
structure GS.Good (st : GS) : Prop where
  joined : st.joined = true → st.prev = 5
  flags : st.flags ≠ 0 → st.prev = 13
theorem GS.first_good (y : Nat) : (GS.first y).Good := ⟨fun h => by simp [GS.first] at h, fun h => by unfold GS.first at h ⊢; simp only at h ⊢; split at h; assumption; exact absurd rfl h⟩
theorem GS.next_good (st : GS) (y : Nat) : (st.next y).Good := ⟨fun h => by simp [GS.next] at h ⊢; exact h.2, fun h => by unfold GS.next at h ⊢; simp only at h ⊢; split at h; assumption; exact absurd rfl h⟩
theorem stOf_good : ∀ {st : GS} (l : List Nat), st.Good → (stOf st l).Good
  | _, [], h => h
  | st, y :: r, _ => stOf_good r (GS.next_good st y)
theorem stOf_prev : ∀ (st : GS) (l : List Nat), (stOf st l).prev = (l.getLast?).getD st.prev
  | _, [] => rfl
  | st, [y] => rfl
  | st, y :: z :: r => by
    have := stOf_prev (st.next y) (z :: r)
    rw [stOf, this, List.getLast?_cons_cons]
    cases h : (z :: r).getLast? with
    | none => simp at h
    | some x => rfl
theorem cutSt_at : ∀ (st : GS) (l : List Nat) (k : Nat) (y : Nat), l[k]? = some y → (cutSt st l)[k]? = some ((stOf st (l.take k)).cut y)
  | _, [], _, _, h => by simp at h
  | st, z :: l, 0, y, h => by simp at h; subst h; rfl
  | st, z :: l, k + 1, y, h => by
    rw [List.getElem?_cons_succ] at h
    rw [cutSt, List.getElem?_cons_succ, cutSt_at (st.next z) l k y h]; rfl
/-- Ahead of a rune behind another one: a state that knows the class of that. -/
theorem cutsG_at {l : List Nat} {k p y : Nat} (hp : l[k]? = some p) (hy : l[k + 1]? = some y) : ∃ st : GS, st.Good ∧ st.prev = p ∧ (cutsG l)[k + 1]? = some (st.cut y) := by
  cases l with
  | nil => simp at hp
  | cons z l =>
    rw [List.getElem?_cons_succ] at hy
    refine ⟨stOf (GS.first z) (l.take k), stOf_good _ (GS.first_good z), ?_, by rw [cutsG, List.getElem?_cons_succ, cutSt_at _ _ _ _ hy]⟩
    rw [stOf_prev]
    cases k with
    | zero => simp at hp; subst hp; rfl
    | succ k =>
      rw [List.getElem?_cons_succ] at hp
      have hlt := (List.getElem?_eq_some_iff.1 hp).1
      rw [List.getLast?_eq_getElem?, List.length_take, Nat.min_eq_left (by omega), Nat.add_sub_cancel, List.getElem?_take_of_lt (by omega), hp]; rfl
/-- What is never cut. -/
theorem cut_joined {st : GS} {y : Nat} (h : st.prev = 1 ∧ y = 2 ∨ endG st.prev = false ∧ (y = 4 ∨ y = 5 ∨ y = 6)) : st.cut y = false := by
  have : joinG st.prev y = true := by
    rcases h with ⟨h1, h2⟩ | ⟨h1, h2⟩
    · unfold joinG; rw [if_pos ⟨h1, h2⟩]
    · have hy : endG y = false := by rcases h2 with rfl | rfl | rfl <;> rfl
      unfold joinG
      rw [if_neg (by rcases h2 with rfl | rfl | rfl <;> omega), h1, hy, if_neg (by simp)]
      rcases h2 with rfl | rfl | rfl <;> simp
  unfold GS.cut; rw [this]; rfl
/-- What is always cut. -/
theorem cut_always {st : GS} {y : Nat} (hg : st.Good) (h1 : ¬ (st.prev = 1 ∧ y = 2)) (h2 : endG st.prev = true ∨ endG y = true) : st.cut y = true := by
  have hj : joinG st.prev y = false := by
    unfold joinG
    rw [if_neg h1, if_pos (by rcases h2 with h | h <;> rw [h] <;> simp)]
  have ha : (st.joined && y == 12) = false := by
    cases hjn : st.joined with
    | false => rfl
    | true =>
      have hp := hg.joined hjn
      rcases h2 with h | h
      · rw [hp] at h; cases h
      · cases hy : (y == 12) with
        | false => rfl
        | true => rw [beq_iff_eq.1 hy] at h; cases h
  have hb : (y == 13 && st.flags % 2 == 1) = false := by
    cases hy : (y == 13) with
    | false => rfl
    | true =>
      have hy' := beq_iff_eq.1 hy
      cases hf : (st.flags % 2 == 1) with
      | false => rfl
      | true =>
        have := beq_iff_eq.1 hf
        have hp := hg.flags (by omega)
        rcases h2 with h | h
        · rw [hp] at h; cases h
        · rw [hy'] at h; cases h
  unfold GS.cut; rw [hj, ha, hb]; rfl
/-- Where all classes are plain every rune is cut off. -/
theorem cut_plain {st : GS} {y : Nat} (hg : st.Good) (h1 : st.prev = 0 ∨ st.prev = 2 ∨ st.prev = 3) (h2 : y = 0 ∨ y = 2 ∨ y = 3) : st.cut y = true := by
  by_cases he : endG st.prev = true ∨ endG y = true
  · exact cut_always hg (by omega) he
  · have e1 : st.prev = 0 := by
      rcases h1 with h | h | h
      · exact h
      · exact absurd (.inl (by rw [h]; rfl)) he
      · exact absurd (.inl (by rw [h]; rfl)) he
    have e2 : y = 0 := by
      rcases h2 with h | h | h
      · exact h
      · exact absurd (.inr (by rw [h]; rfl)) he
      · exact absurd (.inr (by rw [h]; rfl)) he
    subst e2
    unfold GS.cut; rw [e1]
    cases st.joined <;> rfl

/-- The places of a list of runes at which it is cut. -/
def pickG : List (Nat × Nat × Nat) → List Bool → List Nat
  | x :: r, b :: t => (if b then [x.2.1] else []) ++ pickG r t
  | _, _ => []
def clsG (g : Int → Nat) (r : List (Nat × Nat × Nat)) : List Nat := r.map fun x => g x.1
def startsG (g : Int → Nat) (s : ByteArray) : List Nat := pickG (runesP s) (cutsG (clsG g (runesP s)))
/-- The bounds of a text. -/
def boundsG (g : Int → Nat) (s : ByteArray) : List Nat := if s.size = 0 then [] else startsG g s ++ [s.size]
theorem pickG_snoc : ∀ (r : List (Nat × Nat × Nat)) (t : List Bool) (x : Nat × Nat × Nat) (b : Bool), t.length = r.length → pickG (r ++ [x]) (t ++ [b]) = pickG r t ++ (if b then [x.2.1] else [])
  | [], [], x, b, _ => by simp [pickG]
  | [], _ :: _, _, _, h => by simp at h
  | _ :: _, [], _, _, h => by simp at h
  | y :: r, c :: t, x, b, h => by
    rw [List.cons_append, List.cons_append, pickG, pickG, pickG_snoc r t x b (by simpa using h), List.append_assoc]
theorem pickG_mem : ∀ {r : List (Nat × Nat × Nat)} {t : List Bool} {a : Nat}, a ∈ pickG r t ↔ ∃ (k : Nat) (x : Nat × Nat × Nat), r[k]? = some x ∧ t[k]? = some true ∧ x.2.1 = a
  | [], t, a => by simp [pickG]
  | _ :: _, [], a => by simp [pickG]
  | x :: r, b :: t, a => by
    rw [pickG, List.mem_append, pickG_mem (r := r) (t := t)]
    constructor
    · rintro (h | ⟨k, y, h1, h2, h3⟩)
      · cases b with
        | false => simp at h
        | true => simp at h; exact ⟨0, x, rfl, rfl, h.symm⟩
      · exact ⟨k + 1, y, by simpa using h1, by simpa using h2, h3⟩
    · rintro ⟨k, y, h1, h2, h3⟩
      cases k with
      | zero => simp at h1 h2; subst h1; subst h2; exact .inl (by simp [h3])
      | succ k => exact .inr ⟨k, y, by simpa using h1, by simpa using h2, h3⟩
theorem pickG_take : ∀ (r : List (Nat × Nat × Nat)) (t : List Bool) (z : Nat), r.Pairwise (fun x y => x.2.1 < y.2.1) → pickG (r.takeWhile fun x => decide (x.2.1 < z)) (t.take (r.takeWhile fun x => decide (x.2.1 < z)).length) = (pickG r t).filter fun a => decide (a < z)
  | [], t, z, _ => by simp [pickG]
  | x :: r, [], z, _ => by simp [pickG]
  | x :: r, b :: t, z, h => by
    rw [List.pairwise_cons] at h
    rw [List.takeWhile_cons]
    by_cases hx : x.2.1 < z
    · rw [if_pos (by simpa using hx), List.length_cons, List.take_succ_cons, pickG, pickG, pickG_take r t z h.2, List.filter_append]
      congr 1
      cases b with
      | false => rfl
      | true => simp [hx]
    · rw [if_neg (by simpa using hx)]
      symm
      rw [show pickG [] (List.take ([] : List (Nat × Nat × Nat)).length (b :: t)) = [] by simp [pickG], List.filter_eq_nil_iff]
      intro a ha
      obtain ⟨k, y, h1, _, rfl⟩ := pickG_mem.1 ha
      have : x.2.1 ≤ y.2.1 := by
        cases k with
        | zero => simp at h1; subst h1; exact Nat.le_refl _
        | succ k => rw [List.getElem?_cons_succ] at h1; exact Nat.le_of_lt (h.1 y (List.mem_of_getElem? h1))
      simp; omega

theorem runes_rise (s : ByteArray) : (runesP s).Pairwise fun x y => x.2.1 < y.2.1 := by
  have : ∀ (f a : Nat), (runesGo s f a).Pairwise fun x y => x.2.1 < y.2.1 := by
    intro f
    induction f with
    | zero => intro a; exact .nil
    | succ f ih =>
      intro a
      rw [runesGo]
      split
      · rename_i hlt
        have hd := dec_bd s a hlt
        refine .cons (fun y hy => ?_) (ih _)
        have := runesGo_bd _ _ y hy
        simp only; omega
      · exact .nil
  exact this _ _
theorem clsG_len (g : Int → Nat) (r : List (Nat × Nat × Nat)) : (clsG g r).length = r.length := by simp [clsG]
/-- A text's beginning up to a place where it is cut has the cuts that it had. -/
theorem starts_prefix (g : Int → Nat) (s : ByteArray) {z : Nat} (hz : z ≤ s.size) (h : z = 0 ∨ z = s.size ∨ ∃ x ∈ runesP s, x.2.1 = z) : startsG g (s.extract 0 z) = (startsG g s).filter fun a => decide (a < z) := by
  unfold startsG
  rw [runesP_prefix s hz h, ← pickG_take _ _ _ (runes_rise s), ← cutsG_take]
  congr 1
  unfold clsG
  rw [← List.map_take]
  congr 2
  have := List.takeWhile_prefix (fun x : Nat × Nat × Nat => decide (x.2.1 < z)) (l := runesP s)
  exact (List.prefix_iff_eq_take.1 this)
theorem pick_rise : ∀ {r : List (Nat × Nat × Nat)} {t : List Bool}, (r.Pairwise fun x y => x.2.1 < y.2.1) → (pickG r t).Pairwise (· < ·)
  | [], t, _ => by cases t <;> exact .nil
  | _ :: _, [], _ => .nil
  | x :: r, b :: t, h => by
    rw [List.pairwise_cons] at h
    rw [pickG]
    cases b with
    | false => exact pick_rise h.2
    | true =>
      refine .cons (fun a ha => ?_) (pick_rise h.2)
      obtain ⟨k, y, h1, _, rfl⟩ := pickG_mem.1 ha
      exact h.1 y (List.mem_of_getElem? h1)
theorem starts_rise (g : Int → Nat) (s : ByteArray) : (startsG g s).Pairwise (· < ·) := pick_rise (runes_rise s)
theorem starts_lt (g : Int → Nat) (s : ByteArray) : ∀ a ∈ startsG g s, a < s.size := fun a ha => by
  obtain ⟨k, y, h1, _, rfl⟩ := pickG_mem.1 ha
  have := runesP_bd y (List.mem_of_getElem? h1); omega
theorem starts_at (g : Int → Nat) (s : ByteArray) : ∀ a ∈ startsG g s, ∃ x ∈ runesP s, x.2.1 = a := fun a ha => by
  obtain ⟨k, y, h1, _, h⟩ := pickG_mem.1 ha
  exact ⟨y, List.mem_of_getElem? h1, h⟩
theorem starts_zero (g : Int → Nat) {s : ByteArray} (h : 0 < s.size) : ∃ T, startsG g s = 0 :: T := by
  obtain ⟨k, hk, e⟩ := runesGo_step (s := s) (f := s.size) (a := 0) h (by omega)
  unfold startsG runesP
  rw [e]
  exact ⟨_, rfl⟩
theorem bounds_rise (g : Int → Nat) (s : ByteArray) : (boundsG g s).Pairwise (· < ·) := by
  unfold boundsG
  split
  · exact .nil
  · rw [List.pairwise_append]
    exact ⟨starts_rise g s, by simp, fun a ha b hb => by simp at hb; subst hb; exact starts_lt g s a ha⟩
/-- How many pieces a text has up to its n-th bound: n. -/
theorem bounds_cut (g : Int → Nat) (s : ByteArray) {n z : Nat} (h : (boundsG g s)[n]? = some z) : (boundsG g (s.extract 0 z)).length - 1 = n ∧ z ≤ s.size := by
  unfold boundsG at h
  split at h
  · simp at h
  · rename_i hs
    have hr := starts_rise g s
    have hl := starts_lt g s
    have hcut : z ≤ s.size ∧ (z = 0 ∨ z = s.size ∨ ∃ x ∈ runesP s, x.2.1 = z) ∧ (startsG g s).filter (fun a => decide (a < z)) = (startsG g s).take n ∧ n ≤ (startsG g s).length := by
      rcases Nat.lt_or_ge n (startsG g s).length with hn | hn
      · rw [List.getElem?_append_left hn] at h
        have hm := List.mem_of_getElem? h
        refine ⟨Nat.le_of_lt (hl z hm), .inr (.inr (starts_at g s z hm)), ?_, Nat.le_of_lt hn⟩
        have e : startsG g s = (startsG g s).take n ++ (startsG g s).drop n := (List.take_append_drop n _).symm
        have hp := List.pairwise_iff_getElem.1 hr
        rw [List.getElem?_eq_getElem hn] at h
        injection h with h
        conv => lhs; rw [e]
        rw [List.filter_append]
        have e1 : ((startsG g s).take n).filter (fun a => decide (a < z)) = (startsG g s).take n := by
          rw [List.filter_eq_self]
          intro a ha
          obtain ⟨i, hi, rfl⟩ := List.getElem_of_mem ha
          rw [List.length_take] at hi
          have := hp i n (by omega) hn (by omega)
          rw [List.getElem_take]; simp; omega
        have e2 : ((startsG g s).drop n).filter (fun a => decide (a < z)) = [] := by
          rw [List.filter_eq_nil_iff]
          intro a ha
          obtain ⟨i, hi, rfl⟩ := List.getElem_of_mem ha
          rw [List.length_drop] at hi
          rw [List.getElem_drop]
          rcases Nat.eq_zero_or_pos i with h0 | h0
          · subst h0; simp; omega
          · have := hp n (n + i) hn (by omega) (by omega); simp; omega
        rw [e1, e2, List.append_nil]
      · rw [List.getElem?_append_right hn] at h
        have hn0 : n - (startsG g s).length = 0 := by
          rcases Nat.eq_zero_or_pos (n - (startsG g s).length) with h0 | h0
          · exact h0
          · rw [List.getElem?_eq_none (by simp only [List.length_singleton]; omega)] at h; cases h
        rw [hn0] at h
        simp at h
        subst h
        refine ⟨Nat.le_refl _, .inr (.inl rfl), ?_, by omega⟩
        rw [List.take_of_length_le (by omega), List.filter_eq_self]
        intro a ha; simpa using hl a ha
    obtain ⟨hz, hx, hf, hn⟩ := hcut
    refine ⟨?_, hz⟩
    have hsz : (s.extract 0 z).size = z := by rw [ByteArray.size_extract]; omega
    unfold boundsG
    rw [hsz]
    split
    · rename_i hz0
      subst hz0
      have : (startsG g s).take n = [] := by rw [← hf, List.filter_eq_nil_iff]; simp
      have := congrArg List.length this
      simp only [List.length_take, List.length_nil] at this ⊢; omega
    · rw [starts_prefix g s hz hx, hf, List.length_append, List.length_take, Nat.min_eq_left hn]; simp
end Go.Proofs.YthlnfefpdmecaaaGreatDoor

/-
  PLAIN: letters turned; flags by twos; a text of whole runes in pieces. No walk.
-/
namespace Go.Proofs.YthlnfefpdmecaaaGreatDoor

/-- Flag letters behind a plain one: cut by twos. -/
theorem flags_two : ∀ n, n ≤ 20 → (cutsG (0 :: List.replicate n 13)).count true = 1 + (n + 1) / 2 := by
  have h : (List.range 21).all (fun n => decide ((cutsG (0 :: List.replicate n 13)).count true = 1 + (n + 1) / 2)) = true := by decide
  intro n hn
  rw [List.all_eq_true] at h
  exact of_decide_eq_true (h n (List.mem_range.2 (by omega)))
theorem pick_len : ∀ (r : List (Nat × Nat × Nat)) (t : List Bool), t.length = r.length → (pickG r t).length = t.count true
  | [], [], _ => rfl
  | [], _ :: _, h => by simp at h
  | _ :: _, [], h => by simp at h
  | x :: r, b :: t, h => by
    rw [pickG, List.length_append, pick_len r t (by simpa using h)]
    cases b with
    | false => simp
    | true => simp; omega
theorem starts_len (g : Int → Nat) (s : ByteArray) : (startsG g s).length = (cutsG (clsG g (runesP s))).count true := pick_len _ _ (by rw [cutsG_len, clsG_len])

/-- The pieces between bounds, the last one first. -/
def turnL (s : ByteArray) : List Nat → List UInt8
  | a :: b :: r => turnL s (b :: r) ++ (s.extract a b).data.toList
  | _ => []
theorem turnL_len (s : ByteArray) : ∀ (l : List Nat), l.Pairwise (· < ·) → (∀ a ∈ l, a ≤ s.size) → (turnL s l).length = l.getLast?.getD 0 - l.head?.getD 0
  | [], _, _ => rfl
  | [a], _, _ => by simp [turnL]
  | a :: b :: r, h, hz => by
    rw [List.pairwise_cons] at h
    have hab := h.1 b (by simp)
    have ih := turnL_len s (b :: r) h.2 (fun c hc => hz c (by simp [hc]))
    have hlast : b ≤ ((b :: r).getLast?).getD 0 := by
      rw [List.getLast?_eq_getElem?]
      have hlt : (b :: r).length - 1 < (b :: r).length := by simp
      rw [List.getElem?_eq_getElem hlt, Option.getD_some]
      rcases Nat.eq_zero_or_pos ((b :: r).length - 1) with h0 | h0
      · have : (b :: r)[(b :: r).length - 1] = b := by
          have : r = [] := List.eq_nil_of_length_eq_zero (by simpa using h0)
          subst this; rfl
        omega
      · exact Nat.le_of_lt (List.pairwise_iff_getElem.1 h.2 0 _ (by simp) hlt h0)
    rw [turnL, List.length_append, ih, extract_len s (hz b (by simp)), List.getLast?_cons_cons]
    simp only [List.head?_cons, Option.getD_some]
    omega
theorem turn_len (g : Int → Nat) (s : ByteArray) : (turnL s (boundsG g s)).length = s.size := by
  have h := turnL_len s (boundsG g s) (bounds_rise g s)
  by_cases hs : s.size = 0
  · unfold boundsG; rw [if_pos hs, hs]; rfl
  · obtain ⟨T, hT⟩ := starts_zero g (s := s) (by omega)
    have hb : boundsG g s = startsG g s ++ [s.size] := by unfold boundsG; rw [if_neg hs]
    rw [h (fun a ha => by
      rw [hb] at ha
      rcases List.mem_append.1 ha with ha | ha
      · exact Nat.le_of_lt (starts_lt g s a ha)
      · simp at ha; omega), hb]
    rw [List.getLast?_append, hT]
    simp

/- Whole runes. -/
/-- Bytes that are one whole rune. -/
def Chunk (c : List UInt8) : Prop := c ≠ [] ∧ (Utf8.decode (bytesOf c) 0).2 = c.length ∧ ((Utf8.decode (bytesOf c) 0).1 ≠ 65533 ∨ c.length = 3)
def chunksOf (s : ByteArray) (r : List (Nat × Nat × Nat)) : List (List UInt8) := r.map fun x => (s.extract x.2.1 x.2.2).data.toList
/-- A text of whole runes is read as these. -/
theorem chunks_go (t : ByteArray) : ∀ (C : List (List UInt8)) (pre : List UInt8) (f : Nat), (∀ c ∈ C, Chunk c) → t.data.toList = pre ++ C.flatten → t.size ≤ pre.length + f →
    chunksOf t (runesGo t f pre.length) = C ∧ (runesGo t f pre.length).map (·.1) = C.map fun c => (Utf8.decode (bytesOf c) 0).1
  | [], pre, f, _, ht, hf => by
    have : t.size = pre.length := by rw [← size_data, ht]; simp
    rw [runesGo_end (by omega)]; exact ⟨rfl, rfl⟩
  | c :: C, pre, f, hC, ht, hf => by
    obtain ⟨h1, h2, h3⟩ := hC c (by simp)
    have h1' : 0 < c.length := List.length_pos_iff.2 h1
    have hz : t.size = pre.length + c.length + C.flatten.length := by
      rw [← size_data, ht, List.flatten_cons, List.length_append, List.length_append]; omega
    obtain ⟨⟨R, W⟩, hD⟩ : ∃ d, Utf8.decode (bytesOf c) 0 = d := ⟨_, rfl⟩
    rw [hD] at h2 h3
    simp only at h2 h3
    subst h2
    have hd : Utf8.decode t pre.length = (R, c.length) := dec_same hD (by omega) h3 (by omega) fun k hk => by
      rw [bytesOf_get, Nat.zero_add, ← Lib.getD_get!' t, ht, List.flatten_cons, List.getD_eq_getElem?_getD, List.getD_eq_getElem?_getD, List.getElem?_append_right (by omega), Nat.add_sub_cancel_left, List.getElem?_append_left hk]
    obtain ⟨g, rfl, hg⟩ := runesGo_step (s := t) (f := f) (a := pre.length) (by omega) hf
    rw [hd] at hg
    simp only at hg
    obtain ⟨i1, i2⟩ := chunks_go t C (pre ++ c) g (fun y hy => hC y (by simp [hy])) (by rw [ht, List.flatten_cons, List.append_assoc]) (by rw [List.length_append]; omega)
    rw [List.length_append] at i1 i2
    have hx : (t.extract pre.length (pre.length + c.length)).data.toList = c := by
      rw [ByteArray.data_extract, Array.toList_extract, List.extract_eq_take_drop, ht, List.drop_left, Nat.add_sub_cancel_left, List.flatten_cons, List.take_left]
    rw [hg]
    unfold chunksOf at i1 ⊢
    rw [List.map_cons, List.map_cons, List.map_cons, i1, i2, hD]
    exact ⟨by rw [hx], rfl⟩
theorem chunks_flat {C : List (List UInt8)} (hC : ∀ c ∈ C, Chunk c) : chunksOf (bytesOf C.flatten) (runesP (bytesOf C.flatten)) = C ∧ (runesP (bytesOf C.flatten)).map (·.1) = C.map fun c => (Utf8.decode (bytesOf c) 0).1 :=
  chunks_go (bytesOf C.flatten) C [] _ hC (by rw [bytesOf_list]; rfl) (by simp)
theorem contig_flat (s : ByteArray) : ∀ (r : List (Nat × Nat × Nat)) (p z : Nat), Contig p r z → z ≤ s.size → (chunksOf s r).flatten = (s.data.toList.drop p).take (z - p)
  | [], p, z, h, _ => by have : p = z := h; subst this; simp [chunksOf]
  | x :: r, p, z, h, hz => by
    obtain ⟨h1, h2, h3⟩ := h
    have hle : ∀ {r : List (Nat × Nat × Nat)} {p z : Nat}, Contig p r z → p ≤ z := by
      intro r
      induction r with
      | nil => intro p z h; have : p = z := h; omega
      | cons y r ih => intro p z h; have := ih h.2.2; have := h.2.1; omega
    have h4 := hle h3
    have ih := contig_flat s r x.2.2 z h3 hz
    unfold chunksOf at ih ⊢
    rw [List.map_cons, List.flatten_cons, ih, h1, ByteArray.data_extract, Array.toList_extract, List.extract_eq_take_drop]
    rw [show z - p = (x.2.2 - p) + (z - x.2.2) by omega, List.take_add, List.drop_drop, show p + (x.2.2 - p) = x.2.2 by omega]
theorem chunks_all (s : ByteArray) : (chunksOf s (runesP s)).flatten = s.data.toList := by
  rw [contig_flat s _ 0 s.size (runesP_contig s) (Nat.le_refl _), List.drop_zero, Nat.sub_zero, List.take_of_length_le (by rw [size_data]; exact Nat.le_refl _)]
/-- Each rune of a valid text is whole. -/
theorem chunk_of {s : ByteArray} {x : Nat × Nat × Nat} (hx : x ∈ runesP s) (hv : x.1 ≠ 65533 ∨ x.2.2 - x.2.1 = 3) : Chunk (s.extract x.2.1 x.2.2).data.toList ∧ (Utf8.decode (bytesOf (s.extract x.2.1 x.2.2).data.toList) 0).1 = x.1 := by
  have hb := runesP_bd x hx
  have hd := runesGo_dec _ _ x hx
  have hl := extract_len s (a := x.2.1) hb.2.1
  have hD : Utf8.decode (bytesOf (s.extract x.2.1 x.2.2).data.toList) 0 = (x.1, x.2.2 - x.2.1) := dec_same hd (by omega) hv (by rw [bytesOf_size, hl]; omega) fun k hk => by
    rw [bytesOf_get, Nat.zero_add, ← Lib.getD_get!' s, ByteArray.data_extract, Array.toList_extract, List.extract_eq_take_drop, List.getD_eq_getElem?_getD, List.getD_eq_getElem?_getD, List.getElem?_take_of_lt hk, List.getElem?_drop]
  refine ⟨⟨fun h => ?_, ?_, ?_⟩, by rw [hD]⟩
  · rw [h] at hl; simp at hl; omega
  · rw [hD, hl]
  · rw [hD, hl]; exact hv
end Go.Proofs.YthlnfefpdmecaaaGreatDoor

/-
  PLAIN: lines: the chances of a text; a line's end parts them; blanks. No walk.
-/
namespace Go.Proofs.YthlnfefpdmecaaaGreatDoor

/- Two texts with a whole rune between them. -/
theorem decN_tail {n b0 b1 b2 b3 R W : Nat} (h : Lib.decodeN n b0 b1 b2 b3 = (R, W)) : (2 ≤ W → b1 / 64 = 2) ∧ (3 ≤ W → b2 / 64 = 2) ∧ (4 ≤ W → b3 / 64 = 2) ∧ W ≤ 4 := by
  unfold Lib.decodeN at h
  repeat' split at h
  all_goals (injection h with _ h; omega)
theorem dec_tail {s : ByteArray} {i k R W : Nat} (h : Utf8.decode s i = (R, W)) (hk : 0 < k) (hW : k < W) : (s.get! (i + k)).toNat / 64 = 2 := by
  rw [Lib.decode_at] at h
  obtain ⟨h1, h2, h3, h4⟩ := decN_tail h
  rcases (show k = 1 ∨ k = 2 ∨ k = 3 by omega) with rfl | rfl | rfl
  · exact h1 (by omega)
  · exact h2 (by omega)
  · exact h3 (by omega)
/-- Where a byte stands that begins a rune a rune begins. -/
theorem lead_at (s : ByteArray) {z : Nat} (hz : z < s.size) (ha : (s.get! z).toNat / 64 ≠ 2) : ∀ (f a : Nat), s.size ≤ a + f → a ≤ z → ∃ x ∈ runesGo s f a, x.2.1 = z
  | 0, a, hf, hle => by omega
  | f + 1, a, hf, hle => by
    have hlt : a < s.size := by omega
    have hd := dec_bd s a hlt
    obtain ⟨⟨R, W⟩, hD⟩ : ∃ d, Utf8.decode s a = d := ⟨_, rfl⟩
    rw [hD] at hd
    simp only at hd
    have hr : runesGo s (f + 1) a = (R, a, a + W) :: runesGo s f (a + W) := by rw [runesGo, if_pos hlt, hD]
    rw [hr]
    by_cases haz : a = z
    · exact ⟨_, List.mem_cons_self, haz⟩
    · have hle2 : a + W ≤ z := by
        rcases Nat.lt_or_ge z (a + W) with h | h
        · have := dec_tail hD (k := z - a) (by omega) (by omega)
          rw [show a + (z - a) = z by omega] at this; omega
        · exact h
      obtain ⟨x, hx, e⟩ := lead_at s hz ha f (a + W) (by omega) hle2
      exact ⟨x, List.mem_cons_of_mem _ hx, e⟩
theorem runes_joinM (s t : ByteArray) (m : List UInt8) (R : Nat) (hm : Chunk m) (hR : (Utf8.decode (bytesOf m) 0).1 = R) (hl : (m.getD 0 0).toNat / 64 ≠ 2) {u : ByteArray} (hu : u.data.toList = s.data.toList ++ m ++ t.data.toList) :
    runesP u = runesP s ++ (R, s.size, s.size + m.length) :: (runesP t).map (shR (s.size + m.length)) := by
  obtain ⟨m1, m2, m3⟩ := hm
  have m1' : 0 < m.length := List.length_pos_iff.2 m1
  have hz : u.size = s.size + m.length + t.size := by rw [← size_data, hu, List.length_append, List.length_append, size_data, size_data]
  have hget : ∀ k, u.get! k = u.data.toList.getD k 0 := fun k => (Lib.getD_get!' u k).symm
  have hgm : ∀ k, k < m.length → u.get! (s.size + k) = m.getD k 0 := fun k hk => by
    rw [hget, hu, List.append_assoc, List.getD_eq_getElem?_getD, List.getD_eq_getElem?_getD, List.getElem?_append_right (by rw [size_data]; omega), size_data, Nat.add_sub_cancel_left, List.getElem?_append_left hk]
  have hplace := lead_at u (z := s.size) (by omega) (by have := hgm 0 m1'; rw [Nat.add_zero] at this; rw [this]; exact hl) u.size 0 (by omega) (Nat.zero_le _)
  have hs : u.extract 0 s.size = s := by
    have : (u.extract 0 s.size).data.toList = s.data.toList := by
      rw [ByteArray.data_extract, Array.toList_extract, List.extract_eq_take_drop, List.drop_zero, Nat.sub_zero, hu, List.append_assoc, List.take_append_of_le_length (by rw [size_data]; exact Nat.le_refl _), List.take_of_length_le (by rw [size_data]; exact Nat.le_refl _)]
    rw [← bytesOf_data (u.extract 0 s.size), this, bytesOf_data]
  have h1 : runesP s = (runesP u).takeWhile fun x => decide (x.2.1 < s.size) := by
    have := runesP_prefix u (z := s.size) (by omega) (.inr (.inr hplace))
    rw [hs] at this; exact this
  have h2 := split_at_place u (z := s.size) u.size 0 (by omega) hplace
  rw [h1]
  unfold runesP at h2 ⊢
  conv => lhs; rw [h2]
  congr 1
  obtain ⟨k, hk, e⟩ := runesGo_step (s := u) (f := u.size) (a := s.size) (by omega) (by omega)
  obtain ⟨⟨R', W⟩, hD⟩ : ∃ d, Utf8.decode (bytesOf m) 0 = d := ⟨_, rfl⟩
  rw [hD] at m2 m3 hR
  simp only at m2 m3 hR
  subst m2; subst hR
  have hd : Utf8.decode u s.size = (R', m.length) := dec_same hD (by omega) m3 (by omega) fun k hk => by rw [hgm k hk, bytesOf_get, Nat.zero_add]
  rw [e, hd]
  simp only
  congr 1
  have := runes_shift u t (s.size + m.length) (by omega) (fun k => by
    rw [hget, hu, ← Lib.getD_get!' t, List.getD_eq_getElem?_getD, List.getD_eq_getElem?_getD, List.getElem?_append_right (by rw [List.length_append, size_data]; omega), List.length_append, size_data, Nat.add_sub_cancel_left]) t.size k 0 (by omega) (by omega)
  rw [Nat.zero_add] at this
  exact this

def lCls (g : Int → Nat) (s : ByteArray) : List Int := (runesP s).map fun x => (g x.1 : Int)
def lPick (c : List Int) : Nat → List Nat → List (Nat × Bool)
  | _, [] => []
  | i, a :: r => (if i ≠ 0 ∧ lCut c i = true then [(a, lMust (c.getD (i - 1) 0))] else []) ++ lPick c (i + 1) r
/-- The chances of a text. -/
def lChances (g : Int → Nat) (s : ByteArray) : List (Nat × Bool) := lPick (lCls g s) 0 ((runesP s).map (·.2.1)) ++ (if s.size = 0 then [] else [(s.size, true)])
theorem lCls_len (g : Int → Nat) (s : ByteArray) : (lCls g s).length = (runesP s).length := by simp [lCls]
theorem lPick_append (c : List Int) : ∀ (P Q : List Nat) (i : Nat), lPick c i (P ++ Q) = lPick c i P ++ lPick c (i + P.length) Q
  | [], Q, i => by simp [lPick]
  | a :: P, Q, i => by
    rw [List.cons_append, lPick, lPick, lPick_append c P Q (i + 1), List.append_assoc, List.length_cons, show i + 1 + P.length = i + (P.length + 1) by omega]
theorem lPick_congr {c d : List Int} : ∀ (P : List Nat) (i j : Nat), (∀ k, k < P.length → ((i + k ≠ 0 ∧ lCut c (i + k) = true) ↔ (j + k ≠ 0 ∧ lCut d (j + k) = true)) ∧ (i + k ≠ 0 → c.getD (i + k - 1) 0 = d.getD (j + k - 1) 0)) → lPick c i P = lPick d j P
  | [], _, _, _ => rfl
  | a :: P, i, j, h => by
    have h0 := h 0 (by simp)
    simp only [Nat.add_zero] at h0
    rw [lPick, lPick, lPick_congr P (i + 1) (j + 1) (fun k hk => by
      have := h (k + 1) (by simpa using hk)
      rw [show i + 1 + k = i + (k + 1) by omega, show j + 1 + k = j + (k + 1) by omega]; exact this)]
    congr 1
    by_cases hc : i ≠ 0 ∧ lCut c i = true
    · rw [if_pos hc, if_pos (h0.1.1 hc), h0.2 hc.1]
    · rw [if_neg hc, if_neg (fun k => hc (h0.1.2 k))]
def shC (p : Nat) (x : Nat × Bool) : Nat × Bool := (x.1 + p, x.2)
theorem lPick_map (c : List Int) (p : Nat) : ∀ (P : List Nat) (i : Nat), lPick c i (P.map (· + p)) = (lPick c i P).map (shC p)
  | [], _ => rfl
  | a :: P, i => by
    rw [List.map_cons, lPick, lPick, lPick_map c p P (i + 1), List.map_append]
    congr 1
    split <;> rfl
/-- Behind a line's end a text begins anew. -/
theorem lChances_parts {g : Int → Nat} {m : List UInt8} {R : Nat} (hm : Chunk m) (hR : (Utf8.decode (bytesOf m) 0).1 = R) (hl : (m.getD 0 0).toNat / 64 ≠ 2) (hg : g R = 1 ∨ g R = 3) {s t u v : ByteArray} (hu : u.data.toList = s.data.toList ++ m) (hv : v.data.toList = s.data.toList ++ m ++ t.data.toList) :
    lChances g v = lChances g u ++ (lChances g t).map (shC u.size) := by
  have m1' : 0 < m.length := List.length_pos_iff.2 hm.1
  have zu : u.size = s.size + m.length := by rw [← size_data, hu, List.length_append, size_data]
  have zv : v.size = u.size + t.size := by rw [← size_data, hv, List.length_append, List.length_append, size_data, size_data]; omega
  have ru : runesP u = runesP s ++ [(R, s.size, s.size + m.length)] := by
    have := runes_joinM s (bytesOf []) m R hm hR hl (u := u) (by rw [hu, bytesOf_list, List.append_nil])
    rw [this]; rfl
  have rv := runes_joinM s t m R hm hR hl hv
  rw [← zu] at ru rv
  have he : (g R : Int) = 1 ∨ (g R : Int) = 3 := by omega
  have cu : lCls g u = lCls g s ++ [(g R : Int)] := by unfold lCls; rw [ru, List.map_append]; rfl
  have cv : lCls g v = lCls g s ++ (g R : Int) :: lCls g t := by
    unfold lCls
    rw [rv, List.map_append, List.map_cons, List.map_map]; rfl
  have pu : (runesP u).map (·.2.1) = (runesP s).map (·.2.1) ++ [s.size] := by rw [ru, List.map_append]; rfl
  have pv : (runesP v).map (·.2.1) = ((runesP s).map (·.2.1) ++ [s.size]) ++ ((runesP t).map (·.2.1)).map (· + u.size) := by
    rw [rv, List.map_append, List.map_cons, List.map_map, List.map_map, List.append_assoc]; rfl
  unfold lChances
  rw [pv, pu, cv, cu, lPick_append]
  generalize hA : lCls g s = A
  generalize hB : lCls g t = B
  have lA : A.length = (runesP s).length := by rw [← hA, lCls_len]
  have e1 : lPick (A ++ (g R : Int) :: B) 0 ((runesP s).map (·.2.1) ++ [s.size]) = lPick (A ++ [(g R : Int)]) 0 ((runesP s).map (·.2.1) ++ [s.size]) := lPick_congr _ 0 0 fun k hk => by
    rw [List.length_append, List.length_map, List.length_singleton, ← lA] at hk
    rw [Nat.zero_add]
    refine ⟨?_, fun h0 => by rw [gl_left (by omega), gl_left (by omega)]⟩
    by_cases h0 : k = 0
    · subst h0; simp
    · rw [lCut_left he (by omega) (by omega)]
  rw [e1, if_neg (by omega : ¬ u.size = 0), Nat.zero_add, List.length_append, List.length_map, List.length_singleton, ← lA]
  by_cases ht : t.size = 0
  · have : runesP t = [] := by unfold runesP; rw [ht]; rfl
    rw [this, if_neg (by omega), if_pos ht, zv, ht]
    simp [lPick]
  · rw [if_neg (by omega), if_neg ht]
    obtain ⟨k, hk, er⟩ := runesGo_step (s := t) (f := t.size) (a := 0) (by omega) (by omega)
    have hP : ∃ Q, (runesP t).map (·.2.1) = 0 :: Q := ⟨_, by unfold runesP; rw [er, List.map_cons]⟩
    obtain ⟨Q, hQ⟩ := hP
    rw [hQ, List.map_cons, lPick, if_pos ⟨by omega, lCut_begin he⟩, Nat.add_sub_cancel, gl_mid, lPick_map]
    have hmu : lMust (g R : Int) = true := by rcases he with h | h <;> rw [h] <;> rfl
    have e2 : lPick (A ++ (g R : Int) :: B) (A.length + 1 + 1) Q = lPick B 1 Q := lPick_congr _ _ _ fun k _ => by
      rw [show A.length + 1 + 1 + k = A.length + 1 + (k + 1) by omega, show 1 + k = k + 1 by omega, lCut_right he]
      refine ⟨by simp, fun _ => ?_⟩
      rw [show A.length + 1 + (k + 1) - 1 = A.length + 1 + k by omega, gl_right]; rfl
    have e3 : lPick B 0 (0 :: Q) = lPick B 1 Q := by rw [lPick, if_neg (by simp)]; rfl
    rw [e2, e3, hmu, zv, List.map_append]
    simp [shC, Nat.add_comm]
end Go.Proofs.YthlnfefpdmecaaaGreatDoor

/-
  PLAIN: the database of lines' runes, as a row of names and sets; printed by gen_db.py. No walk.
-/
namespace Go.Proofs.YthlnfefpdmecaaaGreatDoor

def linesD : DbP := ⟨[otherL, [66, 107], [67, 114], [76, 102], [83, 112], [90, 119], [87, 106], [71, 108], [67, 109], [79, 112], [67, 112], [67, 108], [81, 117], [69, 120], [73, 115], [83, 121], [72, 121], [66, 97], [68, 97, 115, 104], [73, 110], [78, 117], [80, 111], [80, 114], [73, 100], [78, 115], [82, 105]], [[], [(11, 12), (133, 133), (8232, 8233)], [(13, 13)], [(10, 10)], [(32, 32)], [(8203, 8203)], [(8288, 8288), (65279, 65279)], [(160, 160), (8199, 8199), (8239, 8239)], [(768, 879), (1425, 1469), (8204, 8205), (12441, 12442), (65024, 65039), (127995, 127999)], [(40, 40), (91, 91), (123, 123), (161, 161), (191, 191), (8218, 8218), (12296, 12296), (12298, 12298), (12300, 12300)], [(41, 41), (93, 93)], [(125, 125), (12289, 12290), (12297, 12297), (12299, 12299), (12301, 12301)], [(34, 34), (39, 39), (171, 171), (187, 187), (8216, 8217), (8220, 8221)], [(33, 33), (63, 63)], [(44, 44), (46, 46), (58, 59)], [(47, 47)], [(45, 45)], [(9, 9), (173, 173), (8208, 8208), (8211, 8211)], [(8212, 8212)], [(8230, 8230)], [(48, 57), (1632, 1641)], [(37, 37), (162, 162), (176, 176), (8240, 8240)], [(36, 36), (43, 43), (92, 92), (163, 165), (177, 177), (8364, 8364)], [(12353, 12438), (12449, 12538), (13312, 19903), (19968, 40959), (127744, 127994), (128000, 128591)], [(12293, 12293), (12316, 12316), (12443, 12446), (12539, 12542)], [(127462, 127487)]]⟩
set_option maxRecDepth 100000 in
theorem lines_ok : linesD.okB = true := by kernel_rfl
theorem linesOk : linesD.Ok ∧ Apart linesD.sets ∧ linesD.Named := DbP.okB_spec lines_ok
/-- The number of a rune's class. -/
def gL (r : Int) : Nat := linesD.get r
theorem gL_lt (r : Int) : gL r < 26 := get_lt linesOk.1 r
end Go.Proofs.YthlnfefpdmecaaaGreatDoor

