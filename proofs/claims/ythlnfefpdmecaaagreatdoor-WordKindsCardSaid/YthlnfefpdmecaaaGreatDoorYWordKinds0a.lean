/-
  Several texts in one, in their build order: UtfP, WorP, Ka, Kb, Kc, Kd, PropsL, DbK, WorQ, UtfJ, WorR, Dw, We, Last, Ke, Li, Kf, RunD, RunT, Ue, Rng, AppIn.
-/
import Derived.Lib.DecodeN
import Derived.Lib.RuneCountTail
import Derived.Deep.DeepMust
import Derived.Deep.RegionHeld3
import Derived.Deep.CutRange
import Derived.KernelRfl
import Derived.RangeFuncNested
import Derived.RangeFuncBound
import Derived.RangeFuncCalls
import Derived.RangeFuncLeaves
import Derived.Shelf.Abstract
import Derived.Shelf.RegionOpen
import Derived.OwnWalkIn
import Derived.TacticsInMore
import Derived.LoopNIn
import Derived.LoopIn
import Derived.Test.YthlnfefpdmecaaaGreatDoorZ1b
import Derived.Test.YthlnfefpdmecaaaGreatDoorZ0a
import Derived.Test.YthlnfefpdmecaaaGreatDoorZ1a
import Derived.Test.YthlnfefpdmecaaaGreatDoorZWc
import Derived.Test.YthlnfefpdmecaaaGreatDoorZRefU
import Derived.Test.YthlnfefpdmecaaaGreatDoorZ4a
import Derived.Test.YthlnfefpdmecaaaGreatDoorZ2a
/-
  PLAIN: a text's runes lie one behind the other; a text's beginning has the runes that it had. No walk.
-/
namespace Go.Proofs.YthlnfefpdmecaaaGreatDoor

/-- Runes that lie one behind the other, from p to z. -/
def Contig : Nat → List (Nat × Nat × Nat) → Nat → Prop
  | p, [], z => p = z
  | p, x :: r, z => x.2.1 = p ∧ p < x.2.2 ∧ Contig x.2.2 r z
theorem runesGo_contig {s : ByteArray} : ∀ (f a : Nat), s.size ≤ a + f → a ≤ s.size → Contig a (runesGo s f a) s.size
  | 0, a, h, h2 => by simp only [runesGo, Contig]; omega
  | f + 1, a, h, h2 => by
    rw [runesGo]
    split
    · rename_i hlt
      have hd := dec_bd s a hlt
      exact ⟨rfl, by simp only; omega, runesGo_contig f _ (by simp only; omega) (by simp only; omega)⟩
    · show a = s.size; omega
theorem runesP_contig (s : ByteArray) : Contig 0 (runesP s) s.size := runesGo_contig _ _ (by omega) (by omega)
theorem runesGo_dec {s : ByteArray} : ∀ (f a : Nat), ∀ x ∈ runesGo s f a, Utf8.decode s x.2.1 = (x.1, x.2.2 - x.2.1)
  | 0, a, x, h => by simp [runesGo] at h
  | f + 1, a, x, h => by
    rw [runesGo] at h
    split at h
    · rcases List.mem_cons.1 h with rfl | h
      · simp only; rw [Nat.add_sub_cancel_left]
      · exact runesGo_dec f _ x h
    · simp at h

/- Lengths. -/
theorem extract_len (s : ByteArray) {a b : Nat} (h : b ≤ s.size) : (s.extract a b).data.toList.length = b - a := by
  rw [size_data, ByteArray.size_extract]; omega
theorem decN_same {n m b0 b1 b2 b3 c1 c2 c3 R W : Nat} (h : Lib.decodeN n b0 b1 b2 b3 = (R, W)) (hv : R ≠ 65533 ∨ W = 3) (hm : W ≤ m) (h1 : 2 ≤ W → c1 = b1) (h2 : 3 ≤ W → c2 = b2) (h3 : 4 ≤ W → c3 = b3) :
    Lib.decodeN m b0 c1 c2 c3 = (R, W) := by
  unfold Lib.decodeN at h
  split at h
  · rename_i g0
    injection h with hR hW
    subst hR; subst hW
    unfold Lib.decodeN; rw [if_pos g0]
  · rename_i g0
    split at h
    · rename_i g1
      split at h
      · rename_i g2
        injection h with hR hW
        subst hR; subst hW
        obtain rfl := h1 (by omega)
        unfold Lib.decodeN; rw [if_neg g0, if_pos ⟨g1.1, by omega, g1.2.2⟩, if_pos g2]
      · injection h with hR hW
        subst hR; subst hW
        rcases hv with hv | hv <;> omega
    · rename_i g1
      split at h
      · rename_i g2
        split at h
        · rename_i g3
          injection h with hR hW
          subst hR; subst hW
          obtain rfl := h1 (by omega)
          obtain rfl := h2 (by omega)
          unfold Lib.decodeN; rw [if_neg g0, if_neg (by omega), if_pos ⟨g2.1, ⟨by omega, g2.2.1.2⟩, by omega, g2.2.2.2⟩, if_pos g3]
        · injection h with hR hW
          subst hR; subst hW
          rcases hv with hv | hv <;> omega
      · rename_i g2
        split at h
        · rename_i g3
          split at h
          · rename_i g4
            injection h with hR hW
            subst hR; subst hW
            obtain rfl := h1 (by omega)
            obtain rfl := h2 (by omega)
            obtain rfl := h3 (by omega)
            unfold Lib.decodeN; rw [if_neg g0, if_neg (by omega), if_neg (by omega), if_pos ⟨g3.1, ⟨by omega, g3.2.1.2⟩, ⟨by omega, g3.2.2.1.2⟩, by omega, g3.2.2.2.2⟩, if_pos g4]
          · injection h with hR hW
            subst hR; subst hW
            rcases hv with hv | hv <;> omega
        · injection h with hR hW
          subst hR; subst hW
          rcases hv with hv | hv <;> omega
theorem dec_same {s t : ByteArray} {i j R W : Nat} (h : Utf8.decode s i = (R, W)) (h1 : 1 ≤ W) (hv : R ≠ 65533 ∨ W = 3) (ht : j + W ≤ t.size) (hg : ∀ k, k < W → t.get! (j + k) = s.get! (i + k)) : Utf8.decode t j = (R, W) := by
  rw [Lib.decode_at] at h ⊢
  have h0 := hg 0 (by omega)
  rw [Nat.add_zero, Nat.add_zero] at h0
  rw [h0]
  exact decN_same h hv (by omega) (fun h => by rw [hg 1 (by omega)]) (fun h => by rw [hg 2 (by omega)]) (fun h => by rw [hg 3 (by omega)])

/- A text's beginning. -/
theorem decN_bad {n b0 b1 b2 b3 R W : Nat} (h : Lib.decodeN n b0 b1 b2 b3 = (R, W)) (hv : ¬ (R ≠ 65533 ∨ W = 3)) : R = 65533 ∧ W = 1 := by
  have hR : R = 65533 := Classical.byContradiction fun k => hv (.inl k)
  have hW : W ≠ 3 := fun k => hv (.inr k)
  refine ⟨hR, ?_⟩
  unfold Lib.decodeN at h
  repeat' split at h
  all_goals (injection h with h1 h2; omega)
theorem decN_prefix {n m b0 b1 b2 b3 c1 c2 c3 R W : Nat} (h : Lib.decodeN n b0 b1 b2 b3 = (R, W)) (hmn : m ≤ n) (hm : W ≤ m) (h1 : 2 ≤ m → c1 = b1) (h2 : 3 ≤ m → c2 = b2) (h3 : 4 ≤ m → c3 = b3) (hb : ∀ R' W', Lib.decodeN m b0 c1 c2 c3 = (R', W') → W' ≤ m) :
    Lib.decodeN m b0 c1 c2 c3 = (R, W) := by
  by_cases hv : R ≠ 65533 ∨ W = 3
  · exact decN_same h hv hm (fun k => h1 (by omega)) (fun k => h2 (by omega)) (fun k => h3 (by omega))
  · obtain ⟨⟨R', W'⟩, hD⟩ : ∃ d, Lib.decodeN m b0 c1 c2 c3 = d := ⟨_, rfl⟩
    have hw := hb R' W' hD
    by_cases hv' : R' ≠ 65533 ∨ W' = 3
    · have := decN_same (m := n) (c1 := b1) (c2 := b2) (c3 := b3) hD hv' (by omega) (fun k => (h1 (by omega)).symm) (fun k => (h2 (by omega)).symm) (fun k => (h3 (by omega)).symm)
      rw [hD, ← h, this]
    · obtain ⟨rfl, rfl⟩ := decN_bad h hv
      obtain ⟨rfl, rfl⟩ := decN_bad hD hv'
      exact hD
theorem get_prefix (s : ByteArray) {z k : Nat} (hk : k < z) : (s.extract 0 z).get! k = s.get! k := by
  rw [← Lib.getD_get!', ← Lib.getD_get!', ByteArray.data_extract, Array.toList_extract, List.extract_eq_take_drop, List.getD_eq_getElem?_getD, List.getD_eq_getElem?_getD, List.drop_zero, Nat.sub_zero, List.getElem?_take_of_lt hk]
theorem dec_prefix (s : ByteArray) {z i R W : Nat} (hz : z ≤ s.size) (h : Utf8.decode s i = (R, W)) (hi : i < z) (hw : i + W ≤ z) : Utf8.decode (s.extract 0 z) i = (R, W) := by
  have hsz : (s.extract 0 z).size = z := by rw [ByteArray.size_extract]; omega
  have hb := dec_bd (s.extract 0 z) i (by omega)
  rw [Lib.decode_at] at h hb ⊢
  rw [hsz] at hb ⊢
  have h0 := get_prefix s (k := i) hi
  rw [h0] at hb ⊢
  refine decN_prefix h (by omega) (by omega) (fun k => by rw [get_prefix s (by omega)]) (fun k => by rw [get_prefix s (by omega)]) (fun k => by rw [get_prefix s (by omega)]) fun R' W' hD => ?_
  rw [hD] at hb
  simp only at hb; omega
/-- Runes up to a place where one begins. -/
theorem runesGo_prefix (s : ByteArray) {z : Nat} (hz : z ≤ s.size) : ∀ (f g a : Nat), s.size ≤ a + f → z ≤ a + g → a ≤ z → (a = z ∨ z = s.size ∨ ∃ x ∈ runesGo s f a, x.2.1 = z) → runesGo (s.extract 0 z) g a = (runesGo s f a).takeWhile fun x => decide (x.2.1 < z)
  | 0, g, a, hf, hg, ha, _ => by
    have hsz : (s.extract 0 z).size = z := by rw [ByteArray.size_extract]; omega
    rw [runesGo_end (by omega)]; rfl
  | f + 1, g, a, hf, hg, ha, hx => by
    have hsz : (s.extract 0 z).size = z := by rw [ByteArray.size_extract]; omega
    by_cases haz : a = z
    · subst haz
      rw [runesGo_end (by omega)]
      rw [runesGo]
      split
      · rw [List.takeWhile_cons, if_neg (by simp)]
      · rfl
    · have hlt : a < s.size := by omega
      have hd := dec_bd s a hlt
      obtain ⟨⟨R, W⟩, hD⟩ : ∃ d, Utf8.decode s a = d := ⟨_, rfl⟩
      rw [hD] at hd
      simp only at hd
      have hr : runesGo s (f + 1) a = (R, a, a + W) :: runesGo s f (a + W) := by rw [runesGo, if_pos hlt, hD]
      have hle : a + W ≤ z ∧ (a + W = z ∨ z = s.size ∨ ∃ x ∈ runesGo s f (a + W), x.2.1 = z) := by
        rcases hx with h | h | ⟨x, hm, h⟩
        · omega
        · exact ⟨by omega, .inr (.inl h)⟩
        · rw [hr] at hm
          rcases List.mem_cons.1 hm with rfl | hm
          · simp only at h; omega
          · have := runesGo_bd _ _ x hm
            exact ⟨by omega, .inr (.inr ⟨x, hm, h⟩)⟩
      obtain ⟨k, rfl, hk⟩ := runesGo_step (s := s.extract 0 z) (f := g) (a := a) (by omega) (by omega)
      rw [hk, hr, dec_prefix s hz hD (by omega) hle.1, List.takeWhile_cons, if_pos (by simp; omega)]
      simp only
      rw [runesGo_prefix s hz f k (a + W) (by omega) (by omega) hle.1 hle.2]
theorem runesP_prefix (s : ByteArray) {z : Nat} (hz : z ≤ s.size) (h : z = 0 ∨ z = s.size ∨ ∃ x ∈ runesP s, x.2.1 = z) : runesP (s.extract 0 z) = (runesP s).takeWhile fun x => decide (x.2.1 < z) := by
  have hsz : (s.extract 0 z).size = z := by rw [ByteArray.size_extract]; omega
  unfold runesP
  rw [hsz]
  exact runesGo_prefix s hz s.size z 0 (by omega) (by omega) (by omega) (by rcases h with h | h; exact .inl h.symm; exact .inr h)
end Go.Proofs.YthlnfefpdmecaaaGreatDoor

/-
  PLAIN: words: where a text may be cut by the classes of its runes; what holds together; what parts. No walk.
-/
namespace Go.Proofs.YthlnfefpdmecaaaGreatDoor

def wEnd (c : Int) : Bool := c == 3 || c == 1 || c == 2
def wHang (c : Int) : Bool := c == 4 || c == 6 || c == 5
def wLet (c : Int) : Bool := c == 10 || c == 9
def wInW (c : Int) : Bool := c == 14 || c == 13 || c == 11
def wInN (c : Int) : Bool := c == 15 || c == 13 || c == 11
def wJoin (c : Int) : Bool := wLet c || c == 16 || c == 8
/-- The number of the last rune ahead of one that hangs on nothing; -1: there is none. -/
def wBack (c : List Int) : Nat → Int
  | 0 => -1
  | i + 1 => if wHang (c.getD i 0) then wBack c i else i
def wOf (c : List Int) (i : Int) : Int := if i < 0 ∨ (c.length : Int) ≤ i then -1 else c.getD i.toNat 0
/-- The class of the first rune behind one that hangs on nothing. -/
def wOn (c : List Int) (i : Nat) : Int := (((c.drop (i + 1)).dropWhile wHang).head?).getD (-1)
def wRegGo (c : List Int) : Nat → Nat → Nat
  | 0, _ => 0
  | f + 1, i => if wOf c (wBack c i) = 7 then wRegGo c f (wBack c i).toNat + 1 else 0
def wReg (c : List Int) (i : Nat) : Nat := wRegGo c (i + 1) i
/-- Do letters and digits hold together there? -/
def wLetters (z a q n : Int) : Bool :=
  (wLet a && wLet q || wLet a && wInW q && wLet n || wLet z && wInW a && wLet q) ||
  (a == 9 && q == 11 || a == 9 && q == 12 && n == 9 || z == 9 && a == 12 && q == 9) ||
  (a == 16 && (q == 16 || wLet q) || wLet a && q == 16) ||
  (z == 16 && wInN a && q == 16 || a == 16 && wInN q && n == 16) ||
  (a == 8 && q == 8 || (wJoin a || a == 17) && q == 17 || a == 17 && wJoin q)
/-- May one cut ahead of a rune that is not the first? -/
def wCut (c : List Int) (i : Nat) : Bool :=
  let p := c.getD (i - 1) 0
  let q := c.getD i 0
  if p = 1 ∧ q = 2 then false
  else if wEnd p || wEnd q then true
  else if (p == 5 && q == 19) || (p == 18 && q == 18) || wHang q then false
  else
    let b := wBack c i
    if wLetters (wOf c (wBack c b.toNat)) (wOf c b) q (wOn c i) then false
    else !(q == 7) || wReg c i % 2 == 0
theorem wBack_lt (c : List Int) : ∀ i, wBack c i < (i : Int) ∧ -1 ≤ wBack c i
  | 0 => by simp [wBack]
  | i + 1 => by
    have ih := wBack_lt c i
    unfold wBack
    split <;> omega
theorem wBack_here {c : List Int} {i : Nat} (h : wHang (c.getD i 0) = false) : wBack c (i + 1) = i := by unfold wBack; rw [h]; rfl
theorem wOf_nat {c : List Int} {i : Nat} (h : i < c.length) : wOf c (i : Int) = c.getD i 0 := by unfold wOf; rw [if_neg (by omega), Int.toNat_natCast]

/-- Between which two classes no bound stands, whatever stands around. -/
def wGlue (a b : Int) : Bool := (wLet a && wLet b) || (a == 16 && b == 16) || (wLet a && b == 16) || (a == 16 && wLet b) || (a == 8 && b == 8) || (wHang b && !(wEnd a))
theorem wLet_iff (c : Int) : wLet c = true ↔ c = 10 ∨ c = 9 := by simp [wLet]
theorem wHang_iff (c : Int) : wHang c = true ↔ c = 4 ∨ c = 6 ∨ c = 5 := by simp [wHang, or_assoc]
theorem wEnd_iff (c : Int) : wEnd c = true ↔ c = 3 ∨ c = 1 ∨ c = 2 := by simp [wEnd, or_assoc]
theorem bool_false {b : Bool} (h : ¬ b = true) : b = false := by cases b; rfl; exact absurd rfl h
theorem wCut_glue {c : List Int} {i : Nat} (hi : i + 1 < c.length) (h : wGlue (c.getD i 0) (c.getD (i + 1) 0) = true) : wCut c (i + 1) = false := by
  unfold wCut
  rw [show i + 1 - 1 = i from rfl]
  generalize hp : c.getD i 0 = p at h
  generalize hq : c.getD (i + 1) 0 = q at h
  simp only
  by_cases h12 : p = 1 ∧ q = 2
  · rw [if_pos h12]
  · rw [if_neg h12]
    simp only [wGlue, Bool.or_eq_true, Bool.and_eq_true, wLet_iff, wHang_iff, beq_iff_eq, Bool.not_eq_true'] at h
    have hend : (wEnd p || wEnd q) = false := by
      refine bool_false fun k => ?_
      rw [Bool.or_eq_true, wEnd_iff, wEnd_iff] at k
      rcases h with h | h
      · omega
      · have := h.2
        have hpe : ¬ (p = 3 ∨ p = 1 ∨ p = 2) := fun e => by rw [(wEnd_iff p).2 e] at this; cases this
        omega
    rw [hend]
    simp only [Bool.false_eq_true, if_false]
    rcases h with h | h
    · have hh : wHang p = false := bool_false fun k => by rw [wHang_iff] at k; omega
      split
      · rfl
      · have hb : wBack c (i + 1) = i := wBack_here (by rw [hp]; exact hh)
        rw [hb, wOf_nat (by omega), hp]
        have : wLetters (wOf c (wBack c (i : Int).toNat)) p q (wOn c (i + 1)) = true := by
          generalize wOf c (wBack c (i : Int).toNat) = z
          generalize wOn c (i + 1) = n
          rcases h with (((⟨h1 | h1, h2 | h2⟩ | ⟨h1, h2⟩) | ⟨h1 | h1, h2⟩) | ⟨h1, h2 | h2⟩) | ⟨h1, h2⟩
          all_goals (rw [h1, h2]; simp [wLetters, wLet, wInW, wInN, wJoin])
        rw [this, if_pos rfl]
    · rw [if_pos]
      rw [Bool.or_eq_true]
      exact .inr ((wHang_iff q).2 h.1)
theorem wCut_end {c : List Int} {i : Nat} (h : wEnd (c.getD i 0) = true ∨ wEnd (c.getD (i + 1) 0) = true) : wCut c (i + 1) = !decide (c.getD i 0 = 1 ∧ c.getD (i + 1) 0 = 2) := by
  unfold wCut
  rw [show i + 1 - 1 = i from rfl]
  by_cases h12 : c.getD i 0 = 1 ∧ c.getD (i + 1) 0 = 2
  · rw [if_pos h12, decide_eq_true h12]; rfl
  · rw [if_neg h12, decide_eq_false h12, if_pos (by rcases h with h | h <;> rw [h] <;> simp)]; rfl
end Go.Proofs.YthlnfefpdmecaaaGreatDoor

/-
  word: the tests of a class, walked.
-/
namespace Go.Proofs.YthlnfefpdmecaaaGreatDoor
open Go.RowKit

set_option maxHeartbeats 400000 in
theorem klettered_any (c : Int) (w : World) : Calls Tryz.prog 74 #[.int .i64 c] w fun e w' => e = .returned (.bool (wLet c)) ∧ w = w' := by
  rcases (by omega : c = 10 ∨ c = 9 ∨ (c ≠ 10 ∧ c ≠ 9)) with rfl | rfl | ⟨h1, h2⟩
  iterate 2
    · go_enter Tryz.func74, Tryz.ntmps74
      go_wp2
      go_ret
      exact ⟨rfl, rfl⟩
  · have HV : Hid (wLet c = false) := Lib.hid (by simp [wLet, h1, h2])
    have e1 := beq_eq_false_iff_ne.2 h1
    have e2 := beq_eq_false_iff_ne.2 h2
    clear h1 h2
    go_enter Tryz.func74, Tryz.ntmps74
    go_wp2
    go_ret
    exact ⟨by rw [HV.out]; rfl, rfl⟩
set_option maxHeartbeats 400000 in
theorem kends_any (c : Int) (w : World) : Calls Tryz.prog 76 #[.int .i64 c] w fun e w' => e = .returned (.bool (wEnd c)) ∧ w = w' := by
  rcases (by omega : c = 3 ∨ c = 1 ∨ c = 2 ∨ (c ≠ 3 ∧ c ≠ 1 ∧ c ≠ 2)) with rfl | rfl | rfl | ⟨h1, h2, h3⟩
  iterate 3
    · go_enter Tryz.func76, Tryz.ntmps76
      go_wp2
      go_ret
      exact ⟨rfl, rfl⟩
  · have HV : Hid (wEnd c = false) := Lib.hid (by simp [wEnd, h1, h2, h3])
    have e1 := beq_eq_false_iff_ne.2 h1
    have e2 := beq_eq_false_iff_ne.2 h2
    have e3 := beq_eq_false_iff_ne.2 h3
    clear h1 h2 h3
    go_enter Tryz.func76, Tryz.ntmps76
    go_wp2
    go_ret
    exact ⟨by rw [HV.out]; rfl, rfl⟩
set_option maxHeartbeats 400000 in
theorem khangs_any (c : Int) (w : World) : Calls Tryz.prog 78 #[.int .i64 c] w fun e w' => e = .returned (.bool (wHang c)) ∧ w = w' := by
  rcases (by omega : c = 4 ∨ c = 6 ∨ c = 5 ∨ (c ≠ 4 ∧ c ≠ 6 ∧ c ≠ 5)) with rfl | rfl | rfl | ⟨h1, h2, h3⟩
  iterate 3
    · go_enter Tryz.func78, Tryz.ntmps78
      go_wp2
      go_ret
      exact ⟨rfl, rfl⟩
  · have HV : Hid (wHang c = false) := Lib.hid (by simp [wHang, h1, h2, h3])
    have e1 := beq_eq_false_iff_ne.2 h1
    have e2 := beq_eq_false_iff_ne.2 h2
    have e3 := beq_eq_false_iff_ne.2 h3
    clear h1 h2 h3
    go_enter Tryz.func78, Tryz.ntmps78
    go_wp2
    go_ret
    exact ⟨by rw [HV.out]; rfl, rfl⟩
set_option maxHeartbeats 400000 in
theorem kinWord_any (c : Int) (w : World) : Calls Tryz.prog 157 #[.int .i64 c] w fun e w' => e = .returned (.bool (wInW c)) ∧ w = w' := by
  rcases (by omega : c = 14 ∨ c = 13 ∨ c = 11 ∨ (c ≠ 14 ∧ c ≠ 13 ∧ c ≠ 11)) with rfl | rfl | rfl | ⟨h1, h2, h3⟩
  iterate 3
    · go_enter Tryz.func157, Tryz.ntmps157
      go_wp2
      go_ret
      exact ⟨rfl, rfl⟩
  · have HV : Hid (wInW c = false) := Lib.hid (by simp [wInW, h1, h2, h3])
    have e1 := beq_eq_false_iff_ne.2 h1
    have e2 := beq_eq_false_iff_ne.2 h2
    have e3 := beq_eq_false_iff_ne.2 h3
    clear h1 h2 h3
    go_enter Tryz.func157, Tryz.ntmps157
    go_wp2
    go_ret
    exact ⟨by rw [HV.out]; rfl, rfl⟩
set_option maxHeartbeats 400000 in
theorem kinNumber_any (c : Int) (w : World) : Calls Tryz.prog 158 #[.int .i64 c] w fun e w' => e = .returned (.bool (wInN c)) ∧ w = w' := by
  rcases (by omega : c = 15 ∨ c = 13 ∨ c = 11 ∨ (c ≠ 15 ∧ c ≠ 13 ∧ c ≠ 11)) with rfl | rfl | rfl | ⟨h1, h2, h3⟩
  iterate 3
    · go_enter Tryz.func158, Tryz.ntmps158
      go_wp2
      go_ret
      exact ⟨rfl, rfl⟩
  · have HV : Hid (wInN c = false) := Lib.hid (by simp [wInN, h1, h2, h3])
    have e1 := beq_eq_false_iff_ne.2 h1
    have e2 := beq_eq_false_iff_ne.2 h2
    have e3 := beq_eq_false_iff_ne.2 h3
    clear h1 h2 h3
    go_enter Tryz.func158, Tryz.ntmps158
    go_wp2
    go_ret
    exact ⟨by rw [HV.out]; rfl, rfl⟩
set_option maxHeartbeats 400000 in
theorem kjoined_any (c : Int) (w : World) : Calls Tryz.prog 159 #[.int .i64 c] w fun e w' => e = .returned (.bool (wJoin c)) ∧ w = w' := by
  rcases (by cases wLet c <;> simp : wLet c = true ∨ wLet c = false) with h | h
  · have HV : Hid (wJoin c = true) := Lib.hid (by simp [wJoin, h])
    go_enter Tryz.func159, Tryz.ntmps159
    go_wp2_with (go_at_call 74; refine (klettered_any _ _).mono ?_; rw [h]; rintro e w' ⟨rfl, rfl⟩)
    go_ret
    exact ⟨by rw [HV.out]; rfl, rfl⟩
  · rcases (by omega : c = 16 ∨ c = 8 ∨ (c ≠ 16 ∧ c ≠ 8)) with rfl | rfl | ⟨h1, h2⟩
    iterate 2
      · go_enter Tryz.func159, Tryz.ntmps159
        go_wp2_with (go_at_call 74; refine (klettered_any _ _).mono ?_; rintro e w' ⟨rfl, rfl⟩)
        go_ret
        exact ⟨rfl, rfl⟩
    · have HV : Hid (wJoin c = false) := Lib.hid (by simp [wJoin, h, h1, h2])
      have e1 := beq_eq_false_iff_ne.2 h1
      have e2 := beq_eq_false_iff_ne.2 h2
      clear h1 h2
      go_enter Tryz.func159, Tryz.ntmps159
      go_wp2_with (go_at_call 74; refine (klettered_any _ _).mono ?_; rw [h]; rintro e w' ⟨rfl, rfl⟩)
      go_ret
      exact ⟨by rw [HV.out]; rfl, rfl⟩
end Go.Proofs.YthlnfefpdmecaaaGreatDoor

/-
  word: what stands ahead of a rune and behind it, walked.
-/
namespace Go.Proofs.YthlnfefpdmecaaaGreatDoor
open Go.RowKit

def encZ (x : Int) : List Value := [.int .i64 x]
theorem encZ_ok (l : List Int) : ∀ y ∈ l.map encZ, y.length = 1 ∧ ∀ u ∈ y, u.oneCell' = true := by
  intro y hy; obtain ⟨r, _, rfl⟩ := List.mem_map.1 hy
  exact ⟨rfl, by simp [encZ, Value.oneCell']⟩
theorem Rd.atZ {w : World} {A : Option Addr} {l : List Int} {k : Nat} {x : Int} (h : Rd w 1 A (l.map encZ)) (hk : l[k]? = some x) : ∃ b off, A = some ⟨b, off, none⟩ ∧ w.cell? ⟨b, off + k, none⟩ = some (.int .i64 x) := by
  obtain ⟨b, off, rfl, hc⟩ := h (by intro e; cases l with | nil => simp at hk | cons _ _ => simp at e)
  have h0 := hc k 0 (encZ x) (.int .i64 x) (by simp [hk]) rfl
  exact ⟨b, off, rfl, by simpa using h0⟩
theorem getD_of {c : List Int} {k : Nat} {x : Int} (h : c[k]? = some x) : c.getD k 0 = x := by rw [List.getD_eq_getElem?_getD, h]; rfl

/-- The runes of a text, as the methods take them. -/
def txV (A : Option Addr) (na ca : Nat) (B : Option Addr) (n cb : Nat) (z : Int) : Array Value := #[.slice A na ca, .slice B n cb, .int .i64 z]

set_option maxRecDepth 100000 in
set_option maxHeartbeats 2000000 in
theorem kback_any (A B : Option Addr) (na ca n cb : Nat) (z : Int) (c : List Int) (i : Nat) (w : World) (hB : Rd w 1 B (c.map encZ)) (hl : c.length = n) (hi : i ≤ n) (hn : n ≤ 4000000) :
    Calls Tryz.prog 123 #[.agg #[.slice A na ca, .slice B n cb, .int .i64 z], .int .i64 i] w fun e w' => e = .returned (.int .i64 (wBack c i)) ∧ Below w.heap.size w w' := by
  have Hl := Lib.hid hl
  clear hl
  have hBz : Below w.heap.size w (w.alloc (.cells #[.slice A na ca, .slice B n cb, .int .i64 z] 75)) := (Below.refl _ _).alloc (Nat.le_refl _) _
  have hK := Blk.new w 75 #[.slice A na ca, .slice B n cb, .int .i64 z]
  have k1 := hK.cell 1
  simp only [List.getElem?_toArray, List.getElem?_cons_zero, List.getElem?_cons_succ] at k1
  go_enter Tryz.func123, Tryz.ntmps123
  go_wp2
  go_loopw [1] (fun v wr => ∃ (j : Nat) (x : Int), v = .int .i64 x ∧ x = (j : Int) - 1 ∧ j ≤ i ∧ Hid (wBack c j = wBack c i) ∧ wr = w.alloc (.cells #[.slice A na ca, .slice B n cb, .int .i64 z] 75)) (fun v _ => (intOf v + 1).toNat)
  case atStart => exact ⟨i, _, rfl, by go_num, Nat.le_refl _, Lib.hid rfl, rfl⟩
  case round =>
    obtain ⟨j, x, rfl, hx, hj, HW, rfl⟩ := hrel
    cases j with
    | zero =>
      have hx1 : x < 0 := by omega
      have hx0 : ¬ 0 ≤ x := by omega
      have HV : Hid (wBack c i = x) := Lib.hid (by rw [← HW.out, show x = -1 by omega]; rfl)
      clear hx
      go_wp2
      go_ret
      exact ⟨by rw [HV.out]; rfl, hBz⟩
    | succ j =>
      obtain rfl : x = (j : Int) := by omega
      clear hx
      obtain ⟨q, Hq⟩ : ∃ q, Hid (c[j]? = some q) := ⟨_, Lib.hid (List.getElem?_eq_getElem (by have := Hl.out; omega))⟩
      obtain ⟨b, off, rfl, hc⟩ := hB.atZ Hq.out
      have hc := cell_keep hc hBz
      cases hh : wHang q with
      | true =>
        have HW' : Hid (wBack c j = wBack c i) := Lib.hid (by rw [← HW.out, wBack, getD_of Hq.out, hh]; rfl)
        go_wp2_with (go_at_call 78; refine (khangs_any _ _).mono ?_; rw [hh]; rintro e w' ⟨rfl, rfl⟩)
        go_roundw
        case rel => exact ⟨j, _, rfl, by go_num, by omega, HW', trivial⟩
        case measure => simp [intOf]
      | false =>
        have HV : Hid (wBack c i = j) := Lib.hid (by rw [← HW.out]; exact wBack_here (by rw [getD_of Hq.out]; exact hh))
        go_wp2_with (go_at_call 78; refine (khangs_any _ _).mono ?_; rw [hh]; rintro e w' ⟨rfl, rfl⟩)
        go_ret
        exact ⟨by rw [HV.out]; rfl, hBz⟩

set_option maxRecDepth 100000 in
set_option maxHeartbeats 1000000 in
theorem kof_any (A B : Option Addr) (na ca n cb : Nat) (z : Int) (c : List Int) (i : Int) (w : World) (hB : Rd w 1 B (c.map encZ)) (hl : c.length = n) (_hn : n ≤ 4000000) (hi : -10 ≤ i ∧ i ≤ 4000000) :
    Calls Tryz.prog 125 #[.agg #[.slice A na ca, .slice B n cb, .int .i64 z], .int .i64 i] w fun e w' => e = .returned (.int .i64 (wOf c i)) ∧ Below w.heap.size w w' := by
  have hBz : Below w.heap.size w (w.alloc (.cells #[.slice A na ca, .slice B n cb, .int .i64 z] 75)) := (Below.refl _ _).alloc (Nat.le_refl _) _
  have hK := Blk.new w 75 #[.slice A na ca, .slice B n cb, .int .i64 z]
  have k1 := hK.cell 1
  simp only [List.getElem?_toArray, List.getElem?_cons_zero, List.getElem?_cons_succ] at k1
  rcases (by omega : i < 0 ∨ (¬ i < 0 ∧ (n : Int) ≤ i) ∨ (0 ≤ i ∧ i < n)) with h | ⟨h, h2⟩ | ⟨h, h2⟩
  · have HV : Hid (wOf c i = -1) := Lib.hid (by unfold wOf; rw [if_pos (.inl h)])
    go_enter Tryz.func125, Tryz.ntmps125
    go_wp2
    go_ret
    exact ⟨by rw [HV.out]; rfl, hBz⟩
  · have HV : Hid (wOf c i = -1) := Lib.hid (by unfold wOf; rw [if_pos (.inr (by omega))])
    clear hl
    go_enter Tryz.func125, Tryz.ntmps125
    go_wp2
    go_ret
    exact ⟨by rw [HV.out]; rfl, hBz⟩
  · obtain ⟨k, rfl⟩ : ∃ k : Nat, i = k := ⟨i.toNat, by omega⟩
    have hk : k < n := by omega
    obtain ⟨q, Hq⟩ : ∃ q, Hid (c[k]? = some q) := ⟨_, Lib.hid (List.getElem?_eq_getElem (by omega))⟩
    obtain ⟨b, off, rfl, hc⟩ := hB.atZ Hq.out
    have hc := cell_keep hc hBz
    have HV : Hid (wOf c (k : Int) = q) := Lib.hid (by rw [wOf_nat (by omega), getD_of Hq.out])
    clear hl
    go_enter Tryz.func125, Tryz.ntmps125
    go_wp2
    go_ret
    exact ⟨by rw [HV.out]; rfl, hBz⟩

theorem wOf_bd (c : List Int) (hc : ∀ x ∈ c, 0 ≤ x ∧ x ≤ 64) (i : Int) : -1 ≤ wOf c i ∧ wOf c i ≤ 64 := by
  unfold wOf
  split
  · omega
  · rename_i h
    have hk : i.toNat < c.length := by omega
    have := hc _ (List.getElem_mem hk)
    rw [List.getD_eq_getElem?_getD, List.getElem?_eq_getElem hk]
    simp only [Option.getD_some]
    omega

set_option maxRecDepth 100000 in
set_option maxHeartbeats 2000000 in
theorem kon_any (A B : Option Addr) (na ca n cb : Nat) (z : Int) (c : List Int) (i : Nat) (w : World) (hB : Rd w 1 B (c.map encZ)) (hl : c.length = n) (hi : i < n) (hn : n ≤ 3000000) :
    Calls Tryz.prog 126 #[.agg #[.slice A na ca, .slice B n cb, .int .i64 z], .int .i64 i] w fun e w' => e = .returned (.int .i64 (wOn c i)) ∧ Below w.heap.size w w' := by
  have Hl := Lib.hid hl
  clear hl
  have hBz : Below w.heap.size w (w.alloc (.cells #[.slice A na ca, .slice B n cb, .int .i64 z] 75)) := (Below.refl _ _).alloc (Nat.le_refl _) _
  have hK := Blk.new w 75 #[.slice A na ca, .slice B n cb, .int .i64 z]
  have k0 := hK.cell 0
  have k1 := hK.cell 1
  have k2 := hK.cell 2
  simp only [List.getElem?_toArray, List.getElem?_cons_zero, List.getElem?_cons_succ] at k0 k1 k2
  have HO := Lib.hid (fun (j : Nat) (hj : j ≤ n) => kof_any A B na ca n cb z c j _ (hB.below hBz) Hl.out (by omega) (by omega))
  go_enter Tryz.func126, Tryz.ntmps126
  go_wp2
  go_loopw [1] (fun v wr => ∃ j : Nat, v = .int .i64 j ∧ j ≤ n ∧ Hid (((c.drop j).dropWhile wHang).head?.getD (-1) = wOn c i) ∧ wr = w.alloc (.cells #[.slice A na ca, .slice B n cb, .int .i64 z] 75)) (fun v _ => n - (intOf v).toNat)
  case atStart => exact ⟨i + 1, by go_num, by omega, Lib.hid rfl, rfl⟩
  case round =>
    obtain ⟨j, rfl, hj, HW, rfl⟩ := hrel
    by_cases hlt : j < n
    · obtain ⟨q, Hq⟩ : ∃ q, Hid (c[j]? = some q) := ⟨_, Lib.hid (List.getElem?_eq_getElem (by have := Hl.out; omega))⟩
      have hd : Hid (c.drop j = q :: c.drop (j + 1)) := Lib.hid (by
        obtain ⟨h1, h2⟩ := List.getElem?_eq_some_iff.1 Hq.out
        rw [List.drop_eq_getElem_cons h1, h2])
      obtain ⟨b, off, e0, hc⟩ := hB.atZ Hq.out
      have hc := cell_keep hc hBz
      cases hh : wHang q with
      | true =>
        have HW' : Hid (((c.drop (j + 1)).dropWhile wHang).head?.getD (-1) = wOn c i) := Lib.hid (by rw [← HW.out, hd.out, List.dropWhile_cons, hh]; rfl)
        subst e0
        go_wp2_with (go_at_call 78; refine (khangs_any _ _).mono ?_; rw [hh]; rintro e w' ⟨rfl, rfl⟩)
        go_roundw
        case rel => exact ⟨j + 1, by go_num, by omega, HW', trivial⟩
        case measure => simp [intOf]; omega
      | false =>
        have HV : Hid (wOf c (j : Int) = wOn c i) := Lib.hid (by rw [← HW.out, hd.out, List.dropWhile_cons, hh, wOf_nat (by have := Hl.out; omega), getD_of Hq.out]; rfl)
        have HOj := Lib.hid (HO.out j hj)
        subst e0
        clear HO
        go_wp2_with (first | (go_at_call 78; refine (khangs_any _ _).mono ?_; rw [hh]; rintro e w' ⟨rfl, rfl⟩) | (go_at_call 125; refine HOj.out.mono ?_; rintro e w' ⟨rfl, hb⟩))
        go_ret
        exact ⟨by rw [HV.out]; rfl, hBz.trans (hb.mono hBz.size)⟩
    · obtain rfl : j = n := by omega
      have HV : Hid (wOf c (j : Int) = wOn c i) := Lib.hid (by
        rw [← HW.out, List.drop_eq_nil_of_le (by have := Hl.out; omega)]
        unfold wOf
        rw [if_pos (.inr (by have := Hl.out; omega))]; rfl)
      have HOj := Lib.hid (HO.out j hj)
      clear HO
      go_wp2_with (go_at_call 125; refine HOj.out.mono ?_; rintro e w' ⟨rfl, hb⟩)
      go_ret
      exact ⟨by rw [HV.out]; rfl, hBz.trans (hb.mono hBz.size)⟩

/-- How far the count of regions has come. -/
def RegAt (c : List Int) (i k : Nat) (x : Int) : Prop := -1 ≤ x ∧ (k : Int) + x < i ∧ ∃ f j, x = wBack c j ∧ j < f ∧ k + wRegGo c f j = wReg c i
theorem regAt_first (c : List Int) (i : Nat) : RegAt c i 0 (wBack c i) := ⟨(wBack_lt c i).2, by have := (wBack_lt c i).1; omega, i + 1, i, rfl, by omega, by rw [Nat.zero_add]; rfl⟩
theorem regAt_next {c : List Int} {i k : Nat} {x : Int} (h : RegAt c i k x) (h7 : wOf c x = 7) : ∃ m : Nat, x = m ∧ m < c.length ∧ RegAt c i (k + 1) (wBack c m) := by
  obtain ⟨h1, h2, f, j, rfl, hf, hk⟩ := h
  have h0 : 0 ≤ wBack c j ∧ wBack c j < c.length := by
    unfold wOf at h7
    split at h7
    · omega
    · omega
  obtain ⟨m, hm⟩ : ∃ m : Nat, wBack c j = m := ⟨(wBack c j).toNat, by omega⟩
  rw [hm] at h0 h2 h7 ⊢
  cases f with
  | zero => omega
  | succ f =>
    rw [wRegGo, hm, if_pos h7, Int.toNat_natCast] at hk
    have hl := (wBack_lt c m)
    have hj := (wBack_lt c j).1
    exact ⟨m, rfl, by omega, hl.2, by omega, f, m, rfl, by omega, by omega⟩
theorem regAt_end {c : List Int} {i k : Nat} {x : Int} (h : RegAt c i k x) (h7 : wOf c x ≠ 7) : k = wReg c i := by
  obtain ⟨h1, h2, f, j, rfl, hf, hk⟩ := h
  cases f with
  | zero => omega
  | succ f => rw [wRegGo, if_neg h7] at hk; omega

set_option maxRecDepth 100000 in
set_option maxHeartbeats 2000000 in
theorem kregions_any (A B : Option Addr) (na ca n cb : Nat) (z : Int) (c : List Int) (i : Nat) (w : World) (hB : Rd w 1 B (c.map encZ)) (hl : c.length = n) (hi : i ≤ n) (hn : n ≤ 3000000) :
    Calls Tryz.prog 127 #[.agg #[.slice A na ca, .slice B n cb, .int .i64 z], .int .i64 i] w fun e w' => e = .returned (.int .i64 (wReg c i : Nat)) ∧ Below w.heap.size w w' := by
  have Hl := Lib.hid hl
  clear hl
  have hBz : Below w.heap.size w (w.alloc (.cells #[.slice A na ca, .slice B n cb, .int .i64 z] 75)) := (Below.refl _ _).alloc (Nat.le_refl _) _
  have hK := Blk.new w 75 #[.slice A na ca, .slice B n cb, .int .i64 z]
  have HOf := Lib.hid (fun (j : Int) W (h : Below w.heap.size w W) (hj : -10 ≤ j ∧ j ≤ 4000000) => kof_any A B na ca n cb z c j W (hB.below h) Hl.out (by omega) hj)
  have HBk := Lib.hid (fun (j : Nat) W (h : Below w.heap.size w W) (hj : j ≤ n) => kback_any A B na ca n cb z c j W (hB.below h) Hl.out hj (by omega))
  have HR0 := Lib.hid (regAt_first c i)
  have hs0 : w.heap.size < (w.alloc (.cells #[.slice A na ca, .slice B n cb, .int .i64 z] 75)).heap.size := by simp
  have k0 := hK.cell 0
  have k1 := hK.cell 1
  have k2 := hK.cell 2
  simp only [List.getElem?_toArray, List.getElem?_cons_zero, List.getElem?_cons_succ] at k0 k1 k2
  go_enter Tryz.func127, Tryz.ntmps127
  go_wp2_with fail
  refine (HBk.out i _ hBz hi).mono ?_
  generalize wBack c i = x0 at HR0
  rintro e w1 ⟨rfl, hb1⟩
  replace k0 := cell_keep k0 hb1
  replace k1 := cell_keep k1 hb1
  replace k2 := cell_keep k2 hb1
  have hB1 := hBz.trans (hb1.mono hBz.size)
  clear hBz hb1
  go_wp2_with fail
  go_loopw [1, 5] (fun u v wr => ∃ (x : Int) (k : Nat), u = .int .i64 x ∧ v = .int .i64 k ∧ Hid (RegAt c i k x) ∧ Below w.heap.size w wr ∧ wr.cell? ⟨w.heap.size, 0, none⟩ = some (.slice A na ca) ∧ wr.cell? ⟨w.heap.size, 1, none⟩ = some (.slice B n cb) ∧ wr.cell? ⟨w.heap.size, 2, none⟩ = some (.int .i64 z)) (fun u _ _ => (intOf u + 1).toNat)
  case atStart => exact ⟨_, 0, rfl, rfl, HR0, hB1, k0, k1, k2⟩
  case round =>
    clear k0 k1 k2 hB1
    obtain ⟨x, k, rfl, rfl, HR, hb, k0, k1, k2⟩ := hrel
    have hx1 := HR.out.1
    have hx2 := HR.out.2.1
    have HOx := Lib.hid (HOf.out x wr hb (by omega))
    by_cases h7 : wOf c x = 7
    · rw [h7] at HOx
      obtain ⟨m, rfl, hm, hR'⟩ := regAt_next HR.out h7
      have HR' := Lib.hid hR'
      have hm2 : m ≤ n := by have := Hl.out; omega
      clear hR' h7 hm HR
      have hx3 := HR'.out.1
      have hx4 := HR'.out.2.1
      go_wp2_with fail
      refine HOx.out.mono ?_
      rintro e w2 ⟨rfl, hb2⟩
      replace k0 := cell_keep k0 hb2
      replace k1 := cell_keep k1 hb2
      replace k2 := cell_keep k2 hb2
      have hbb := below_step hb hb2 hb.size
      go_wp2_with fail
      refine (HBk.out m w2 hbb hm2).mono ?_
      have hlt : wBack c m < (m : Int) := (wBack_lt c m).1
      generalize wBack c m = y at HR' hx3 hx4 hlt
      rintro e w3 ⟨rfl, hb3⟩
      replace k0 := cell_keep k0 hb3
      replace k1 := cell_keep k1 hb3
      replace k2 := cell_keep k2 hb3
      have hbc := below_step hbb hb3 hbb.size
      go_wp2
      go_roundw
      case rel => exact ⟨y, k + 1, rfl, by go_num, HR', hbc, k0, k1, k2⟩
      case measure => simp [intOf]; omega
    · have HV : Hid (k = wReg c i) := Lib.hid (regAt_end HR.out h7)
      have e7 : (wOf c x == 7) = false := beq_eq_false_iff_ne.2 h7
      clear h7
      generalize wOf c x = y at HOx e7
      go_wp2_with fail
      refine HOx.out.mono ?_
      rintro e w2 ⟨rfl, hb2⟩
      go_wp2
      go_ret
      exact ⟨by rw [HV.out]; rfl, below_step hb hb2 hb.size⟩
end Go.Proofs.YthlnfefpdmecaaaGreatDoor

/-
  word: do letters and digits hold together there? walked: a cut around each test. Printed by gen_kletters.py.
-/
namespace Go.Proofs.YthlnfefpdmecaaaGreatDoor
open Go.RowKit

set_option maxRecDepth 100000 in
set_option maxHeartbeats 8000000 in
theorem kletters_any (z a q n : Int) (w : World) : Calls Tryz.prog 124 #[.int .i64 z, .int .i64 a, .int .i64 q, .int .i64 n] w fun e w' => e = .returned (.bool (wLetters z a q n)) ∧ w = w' := by
  obtain ⟨x1, H1⟩ : ∃ x, Hid ((wLet a && wLet q) = x) := ⟨_, Lib.hid rfl⟩
  obtain ⟨x2, H2⟩ : ∃ x, Hid ((wLet a && wInW q && wLet n) = x) := ⟨_, Lib.hid rfl⟩
  obtain ⟨x3, H3⟩ : ∃ x, Hid ((wLet z && wInW a && wLet q) = x) := ⟨_, Lib.hid rfl⟩
  obtain ⟨x4, H4⟩ : ∃ x, Hid (((a == 9) && (q == 11)) = x) := ⟨_, Lib.hid rfl⟩
  obtain ⟨x5, H5⟩ : ∃ x, Hid (((a == 9) && (q == 12) && (n == 9)) = x) := ⟨_, Lib.hid rfl⟩
  obtain ⟨x6, H6⟩ : ∃ x, Hid (((z == 9) && (a == 12) && (q == 9)) = x) := ⟨_, Lib.hid rfl⟩
  obtain ⟨x7, H7⟩ : ∃ x, Hid (((a == 16) && ((q == 16) || wLet q)) = x) := ⟨_, Lib.hid rfl⟩
  obtain ⟨x8, H8⟩ : ∃ x, Hid ((wLet a && (q == 16)) = x) := ⟨_, Lib.hid rfl⟩
  obtain ⟨x9, H9⟩ : ∃ x, Hid (((z == 16) && wInN a && (q == 16)) = x) := ⟨_, Lib.hid rfl⟩
  obtain ⟨x10, H10⟩ : ∃ x, Hid (((a == 16) && wInN q && (n == 16)) = x) := ⟨_, Lib.hid rfl⟩
  obtain ⟨x11, H11⟩ : ∃ x, Hid ((((a == 8) && (q == 8)) || ((wJoin a || (a == 17)) && (q == 17)) || ((a == 17) && wJoin q)) = x) := ⟨_, Lib.hid rfl⟩
  have HW : Hid (wLetters z a q n = (x1 || x2 || x3 || (x4 || x5 || x6) || (x7 || x8) || (x9 || x10) || x11)) := Lib.hid (by
    rw [← H1.out, ← H2.out, ← H3.out, ← H4.out, ← H5.out, ← H6.out, ← H7.out, ← H8.out, ← H9.out, ← H10.out, ← H11.out]; rfl)
  go_enter Tryz.func124, Tryz.ntmps124
  go_upto_region 1 with fail
  go_cut [9] from 9 (fun v wx => v = .bool x1 ∧ w = wx)
  case first =>
    cases h1 : wLet a with
    | true =>
      cases h2 : wLet q with
      | true =>
        go_wp2_with (first | (go_at_call 74; refine (klettered_any _ _).mono ?_; rw [h1]; rintro e w' ⟨rfl, rfl⟩) | (go_at_call 74; refine (klettered_any _ _).mono ?_; rw [h2]; rintro e w' ⟨rfl, rfl⟩) | fail)
        go_meet
        exact ⟨by rw [← H1.out, h1, h2]; rfl, rfl⟩
      | false =>
        go_wp2_with (first | (go_at_call 74; refine (klettered_any _ _).mono ?_; rw [h1]; rintro e w' ⟨rfl, rfl⟩) | (go_at_call 74; refine (klettered_any _ _).mono ?_; rw [h2]; rintro e w' ⟨rfl, rfl⟩) | fail)
        go_meet
        exact ⟨by rw [← H1.out, h1, h2]; rfl, rfl⟩
    | false =>
      go_wp2_with (first | (go_at_call 74; refine (klettered_any _ _).mono ?_; rw [h1]; rintro e w' ⟨rfl, rfl⟩) | fail)
      go_meet
      exact ⟨by rw [← H1.out, h1]; rfl, rfl⟩
  case rest =>
    obtain ⟨rfl, rfl⟩ := hcut
    cases x1 with
    | true =>
      go_wp2
      go_ret
      exact ⟨by rw [HW.out]; simp, rfl⟩
    | false =>
      go_upto_region 2 with fail
      go_cut [9] from 9 (fun v wx => v = .bool x2 ∧ w = wx)
      case first =>
        cases h1 : wLet a with
        | true =>
          cases h2 : wInW q with
          | true =>
            cases h3 : wLet n with
            | true =>
              go_wp2_with (first | (go_at_call 74; refine (klettered_any _ _).mono ?_; rw [h1]; rintro e w' ⟨rfl, rfl⟩) | (go_at_call 157; refine (kinWord_any _ _).mono ?_; rw [h2]; rintro e w' ⟨rfl, rfl⟩) | (go_at_call 74; refine (klettered_any _ _).mono ?_; rw [h3]; rintro e w' ⟨rfl, rfl⟩) | fail)
              go_meet
              exact ⟨by rw [← H2.out, h1, h2, h3]; rfl, rfl⟩
            | false =>
              go_wp2_with (first | (go_at_call 74; refine (klettered_any _ _).mono ?_; rw [h1]; rintro e w' ⟨rfl, rfl⟩) | (go_at_call 157; refine (kinWord_any _ _).mono ?_; rw [h2]; rintro e w' ⟨rfl, rfl⟩) | (go_at_call 74; refine (klettered_any _ _).mono ?_; rw [h3]; rintro e w' ⟨rfl, rfl⟩) | fail)
              go_meet
              exact ⟨by rw [← H2.out, h1, h2, h3]; rfl, rfl⟩
          | false =>
            go_wp2_with (first | (go_at_call 74; refine (klettered_any _ _).mono ?_; rw [h1]; rintro e w' ⟨rfl, rfl⟩) | (go_at_call 157; refine (kinWord_any _ _).mono ?_; rw [h2]; rintro e w' ⟨rfl, rfl⟩) | fail)
            go_meet
            exact ⟨by rw [← H2.out, h1, h2]; rfl, rfl⟩
        | false =>
          go_wp2_with (first | (go_at_call 74; refine (klettered_any _ _).mono ?_; rw [h1]; rintro e w' ⟨rfl, rfl⟩) | fail)
          go_meet
          exact ⟨by rw [← H2.out, h1]; rfl, rfl⟩
      case rest =>
        obtain ⟨rfl, rfl⟩ := hcut
        cases x2 with
        | true =>
          go_wp2
          go_ret
          exact ⟨by rw [HW.out]; simp, rfl⟩
        | false =>
          go_upto_region 3 with fail
          go_cut [9] from 9 (fun v wx => v = .bool x3 ∧ w = wx)
          case first =>
            cases h1 : wLet z with
            | true =>
              cases h2 : wInW a with
              | true =>
                cases h3 : wLet q with
                | true =>
                  go_wp2_with (first | (go_at_call 74; refine (klettered_any _ _).mono ?_; rw [h1]; rintro e w' ⟨rfl, rfl⟩) | (go_at_call 157; refine (kinWord_any _ _).mono ?_; rw [h2]; rintro e w' ⟨rfl, rfl⟩) | (go_at_call 74; refine (klettered_any _ _).mono ?_; rw [h3]; rintro e w' ⟨rfl, rfl⟩) | fail)
                  go_meet
                  exact ⟨by rw [← H3.out, h1, h2, h3]; rfl, rfl⟩
                | false =>
                  go_wp2_with (first | (go_at_call 74; refine (klettered_any _ _).mono ?_; rw [h1]; rintro e w' ⟨rfl, rfl⟩) | (go_at_call 157; refine (kinWord_any _ _).mono ?_; rw [h2]; rintro e w' ⟨rfl, rfl⟩) | (go_at_call 74; refine (klettered_any _ _).mono ?_; rw [h3]; rintro e w' ⟨rfl, rfl⟩) | fail)
                  go_meet
                  exact ⟨by rw [← H3.out, h1, h2, h3]; rfl, rfl⟩
              | false =>
                go_wp2_with (first | (go_at_call 74; refine (klettered_any _ _).mono ?_; rw [h1]; rintro e w' ⟨rfl, rfl⟩) | (go_at_call 157; refine (kinWord_any _ _).mono ?_; rw [h2]; rintro e w' ⟨rfl, rfl⟩) | fail)
                go_meet
                exact ⟨by rw [← H3.out, h1, h2]; rfl, rfl⟩
            | false =>
              go_wp2_with (first | (go_at_call 74; refine (klettered_any _ _).mono ?_; rw [h1]; rintro e w' ⟨rfl, rfl⟩) | fail)
              go_meet
              exact ⟨by rw [← H3.out, h1]; rfl, rfl⟩
          case rest =>
            obtain ⟨rfl, rfl⟩ := hcut
            cases x3 with
            | true =>
              go_wp2
              go_ret
              exact ⟨by rw [HW.out]; simp, rfl⟩
            | false =>
              go_upto_region 5 with fail
              go_cut [36] from 9 (fun v wx => v = .bool x4 ∧ w = wx)
              case first =>
                cases h1 : (a == 9) with
                | true =>
                  cases h2 : (q == 11) with
                  | true =>
                    go_wp2_with fail
                    go_meet
                    exact ⟨by rw [← H4.out, h1, h2]; rfl, rfl⟩
                  | false =>
                    go_wp2_with fail
                    go_meet
                    exact ⟨by rw [← H4.out, h1, h2]; rfl, rfl⟩
                | false =>
                  go_wp2_with fail
                  go_meet
                  exact ⟨by rw [← H4.out, h1]; rfl, rfl⟩
              case rest =>
                obtain ⟨rfl, rfl⟩ := hcut
                cases x4 with
                | true =>
                  go_wp2
                  go_ret
                  exact ⟨by rw [HW.out]; simp, rfl⟩
                | false =>
                  go_upto_region 6 with fail
                  go_cut [36] from 9 (fun v wx => v = .bool x5 ∧ w = wx)
                  case first =>
                    cases h1 : (a == 9) with
                    | true =>
                      cases h2 : (q == 12) with
                      | true =>
                        cases h3 : (n == 9) with
                        | true =>
                          go_wp2_with fail
                          go_meet
                          exact ⟨by rw [← H5.out, h1, h2, h3]; rfl, rfl⟩
                        | false =>
                          go_wp2_with fail
                          go_meet
                          exact ⟨by rw [← H5.out, h1, h2, h3]; rfl, rfl⟩
                      | false =>
                        go_wp2_with fail
                        go_meet
                        exact ⟨by rw [← H5.out, h1, h2]; rfl, rfl⟩
                    | false =>
                      go_wp2_with fail
                      go_meet
                      exact ⟨by rw [← H5.out, h1]; rfl, rfl⟩
                  case rest =>
                    obtain ⟨rfl, rfl⟩ := hcut
                    cases x5 with
                    | true =>
                      go_wp2
                      go_ret
                      exact ⟨by rw [HW.out]; simp, rfl⟩
                    | false =>
                      go_upto_region 7 with fail
                      go_cut [36] from 9 (fun v wx => v = .bool x6 ∧ w = wx)
                      case first =>
                        cases h1 : (z == 9) with
                        | true =>
                          cases h2 : (a == 12) with
                          | true =>
                            cases h3 : (q == 9) with
                            | true =>
                              go_wp2_with fail
                              go_meet
                              exact ⟨by rw [← H6.out, h1, h2, h3]; rfl, rfl⟩
                            | false =>
                              go_wp2_with fail
                              go_meet
                              exact ⟨by rw [← H6.out, h1, h2, h3]; rfl, rfl⟩
                          | false =>
                            go_wp2_with fail
                            go_meet
                            exact ⟨by rw [← H6.out, h1, h2]; rfl, rfl⟩
                        | false =>
                          go_wp2_with fail
                          go_meet
                          exact ⟨by rw [← H6.out, h1]; rfl, rfl⟩
                      case rest =>
                        obtain ⟨rfl, rfl⟩ := hcut
                        cases x6 with
                        | true =>
                          go_wp2
                          go_ret
                          exact ⟨by rw [HW.out]; simp, rfl⟩
                        | false =>
                          go_upto_region 9 with fail
                          go_cut [63] from 9 (fun v wx => v = .bool x7 ∧ w = wx)
                          case first =>
                            cases h1 : (a == 16) with
                            | true =>
                              cases h2 : (q == 16) with
                              | true =>
                                go_wp2_with fail
                                go_meet
                                exact ⟨by rw [← H7.out, h1, h2]; rfl, rfl⟩
                              | false =>
                                cases h3 : wLet q with
                                | true =>
                                  go_wp2_with (first | (go_at_call 74; refine (klettered_any _ _).mono ?_; rw [h3]; rintro e w' ⟨rfl, rfl⟩) | fail)
                                  go_meet
                                  exact ⟨by rw [← H7.out, h1, h2, h3]; rfl, rfl⟩
                                | false =>
                                  go_wp2_with (first | (go_at_call 74; refine (klettered_any _ _).mono ?_; rw [h3]; rintro e w' ⟨rfl, rfl⟩) | fail)
                                  go_meet
                                  exact ⟨by rw [← H7.out, h1, h2, h3]; rfl, rfl⟩
                            | false =>
                              go_wp2_with fail
                              go_meet
                              exact ⟨by rw [← H7.out, h1]; rfl, rfl⟩
                          case rest =>
                            obtain ⟨rfl, rfl⟩ := hcut
                            cases x7 with
                            | true =>
                              go_wp2
                              go_ret
                              exact ⟨by rw [HW.out]; simp, rfl⟩
                            | false =>
                              go_upto_region 10 with fail
                              go_cut [63] from 9 (fun v wx => v = .bool x8 ∧ w = wx)
                              case first =>
                                cases h1 : wLet a with
                                | true =>
                                  cases h2 : (q == 16) with
                                  | true =>
                                    go_wp2_with (first | (go_at_call 74; refine (klettered_any _ _).mono ?_; rw [h1]; rintro e w' ⟨rfl, rfl⟩) | fail)
                                    go_meet
                                    exact ⟨by rw [← H8.out, h1, h2]; rfl, rfl⟩
                                  | false =>
                                    go_wp2_with (first | (go_at_call 74; refine (klettered_any _ _).mono ?_; rw [h1]; rintro e w' ⟨rfl, rfl⟩) | fail)
                                    go_meet
                                    exact ⟨by rw [← H8.out, h1, h2]; rfl, rfl⟩
                                | false =>
                                  go_wp2_with (first | (go_at_call 74; refine (klettered_any _ _).mono ?_; rw [h1]; rintro e w' ⟨rfl, rfl⟩) | fail)
                                  go_meet
                                  exact ⟨by rw [← H8.out, h1]; rfl, rfl⟩
                              case rest =>
                                obtain ⟨rfl, rfl⟩ := hcut
                                cases x8 with
                                | true =>
                                  go_wp2
                                  go_ret
                                  exact ⟨by rw [HW.out]; simp, rfl⟩
                                | false =>
                                  go_upto_region 12 with fail
                                  go_cut [80] from 9 (fun v wx => v = .bool x9 ∧ w = wx)
                                  case first =>
                                    cases h1 : (z == 16) with
                                    | true =>
                                      cases h2 : wInN a with
                                      | true =>
                                        cases h3 : (q == 16) with
                                        | true =>
                                          go_wp2_with (first | (go_at_call 158; refine (kinNumber_any _ _).mono ?_; rw [h2]; rintro e w' ⟨rfl, rfl⟩) | fail)
                                          go_meet
                                          exact ⟨by rw [← H9.out, h1, h2, h3]; rfl, rfl⟩
                                        | false =>
                                          go_wp2_with (first | (go_at_call 158; refine (kinNumber_any _ _).mono ?_; rw [h2]; rintro e w' ⟨rfl, rfl⟩) | fail)
                                          go_meet
                                          exact ⟨by rw [← H9.out, h1, h2, h3]; rfl, rfl⟩
                                      | false =>
                                        go_wp2_with (first | (go_at_call 158; refine (kinNumber_any _ _).mono ?_; rw [h2]; rintro e w' ⟨rfl, rfl⟩) | fail)
                                        go_meet
                                        exact ⟨by rw [← H9.out, h1, h2]; rfl, rfl⟩
                                    | false =>
                                      go_wp2_with fail
                                      go_meet
                                      exact ⟨by rw [← H9.out, h1]; rfl, rfl⟩
                                  case rest =>
                                    obtain ⟨rfl, rfl⟩ := hcut
                                    cases x9 with
                                    | true =>
                                      go_wp2
                                      go_ret
                                      exact ⟨by rw [HW.out]; simp, rfl⟩
                                    | false =>
                                      go_upto_region 13 with fail
                                      go_cut [80] from 9 (fun v wx => v = .bool x10 ∧ w = wx)
                                      case first =>
                                        cases h1 : (a == 16) with
                                        | true =>
                                          cases h2 : wInN q with
                                          | true =>
                                            cases h3 : (n == 16) with
                                            | true =>
                                              go_wp2_with (first | (go_at_call 158; refine (kinNumber_any _ _).mono ?_; rw [h2]; rintro e w' ⟨rfl, rfl⟩) | fail)
                                              go_meet
                                              exact ⟨by rw [← H10.out, h1, h2, h3]; rfl, rfl⟩
                                            | false =>
                                              go_wp2_with (first | (go_at_call 158; refine (kinNumber_any _ _).mono ?_; rw [h2]; rintro e w' ⟨rfl, rfl⟩) | fail)
                                              go_meet
                                              exact ⟨by rw [← H10.out, h1, h2, h3]; rfl, rfl⟩
                                          | false =>
                                            go_wp2_with (first | (go_at_call 158; refine (kinNumber_any _ _).mono ?_; rw [h2]; rintro e w' ⟨rfl, rfl⟩) | fail)
                                            go_meet
                                            exact ⟨by rw [← H10.out, h1, h2]; rfl, rfl⟩
                                        | false =>
                                          go_wp2_with fail
                                          go_meet
                                          exact ⟨by rw [← H10.out, h1]; rfl, rfl⟩
                                      case rest =>
                                        obtain ⟨rfl, rfl⟩ := hcut
                                        cases x10 with
                                        | true =>
                                          go_wp2
                                          go_ret
                                          exact ⟨by rw [HW.out]; simp, rfl⟩
                                        | false =>
                                          cases h1 : (a == 8) with
                                          | true =>
                                            cases h2 : (q == 8) with
                                            | true =>
                                              go_wp2_with fail
                                              go_ret
                                              exact ⟨by rw [HW.out, ← H11.out]; simp [h1, h2], rfl⟩
                                            | false =>
                                              cases h3 : wJoin a with
                                              | true =>
                                                cases h4 : (q == 17) with
                                                | true =>
                                                  go_wp2_with (first | (go_at_call 159; refine (kjoined_any _ _).mono ?_; rw [h3]; rintro e w' ⟨rfl, rfl⟩) | fail)
                                                  go_ret
                                                  exact ⟨by rw [HW.out, ← H11.out]; simp [h1, h2, h3, h4], rfl⟩
                                                | false =>
                                                  cases h5 : (a == 17) with
                                                  | true =>
                                                    cases h6 : wJoin q with
                                                    | true =>
                                                      go_wp2_with (first | (go_at_call 159; refine (kjoined_any _ _).mono ?_; rw [h3]; rintro e w' ⟨rfl, rfl⟩) | (go_at_call 159; refine (kjoined_any _ _).mono ?_; rw [h6]; rintro e w' ⟨rfl, rfl⟩) | fail)
                                                      go_ret
                                                      exact ⟨by rw [HW.out, ← H11.out]; simp [h1, h2, h3, h4, h5, h6], rfl⟩
                                                    | false =>
                                                      go_wp2_with (first | (go_at_call 159; refine (kjoined_any _ _).mono ?_; rw [h3]; rintro e w' ⟨rfl, rfl⟩) | (go_at_call 159; refine (kjoined_any _ _).mono ?_; rw [h6]; rintro e w' ⟨rfl, rfl⟩) | fail)
                                                      go_ret
                                                      exact ⟨by rw [HW.out, ← H11.out]; simp [h1, h2, h3, h4, h5, h6], rfl⟩
                                                  | false =>
                                                    go_wp2_with (first | (go_at_call 159; refine (kjoined_any _ _).mono ?_; rw [h3]; rintro e w' ⟨rfl, rfl⟩) | fail)
                                                    go_ret
                                                    exact ⟨by rw [HW.out, ← H11.out]; simp [h1, h2, h3, h4, h5], rfl⟩
                                              | false =>
                                                cases h4 : (a == 17) with
                                                | true =>
                                                  cases h5 : (q == 17) with
                                                  | true =>
                                                    go_wp2_with (first | (go_at_call 159; refine (kjoined_any _ _).mono ?_; rw [h3]; rintro e w' ⟨rfl, rfl⟩) | fail)
                                                    go_ret
                                                    exact ⟨by rw [HW.out, ← H11.out]; simp [h1, h2, h3, h4, h5], rfl⟩
                                                  | false =>
                                                    cases h6 : wJoin q with
                                                    | true =>
                                                      go_wp2_with (first | (go_at_call 159; refine (kjoined_any _ _).mono ?_; rw [h3]; rintro e w' ⟨rfl, rfl⟩) | (go_at_call 159; refine (kjoined_any _ _).mono ?_; rw [h6]; rintro e w' ⟨rfl, rfl⟩) | fail)
                                                      go_ret
                                                      exact ⟨by rw [HW.out, ← H11.out]; simp [h1, h2, h3, h4, h5, h6], rfl⟩
                                                    | false =>
                                                      go_wp2_with (first | (go_at_call 159; refine (kjoined_any _ _).mono ?_; rw [h3]; rintro e w' ⟨rfl, rfl⟩) | (go_at_call 159; refine (kjoined_any _ _).mono ?_; rw [h6]; rintro e w' ⟨rfl, rfl⟩) | fail)
                                                      go_ret
                                                      exact ⟨by rw [HW.out, ← H11.out]; simp [h1, h2, h3, h4, h5, h6], rfl⟩
                                                | false =>
                                                  go_wp2_with (first | (go_at_call 159; refine (kjoined_any _ _).mono ?_; rw [h3]; rintro e w' ⟨rfl, rfl⟩) | fail)
                                                  go_ret
                                                  exact ⟨by rw [HW.out, ← H11.out]; simp [h1, h2, h3, h4], rfl⟩
                                          | false =>
                                            cases h2 : wJoin a with
                                            | true =>
                                              cases h3 : (q == 17) with
                                              | true =>
                                                go_wp2_with (first | (go_at_call 159; refine (kjoined_any _ _).mono ?_; rw [h2]; rintro e w' ⟨rfl, rfl⟩) | fail)
                                                go_ret
                                                exact ⟨by rw [HW.out, ← H11.out]; simp [h1, h2, h3], rfl⟩
                                              | false =>
                                                cases h4 : (a == 17) with
                                                | true =>
                                                  cases h5 : wJoin q with
                                                  | true =>
                                                    go_wp2_with (first | (go_at_call 159; refine (kjoined_any _ _).mono ?_; rw [h2]; rintro e w' ⟨rfl, rfl⟩) | (go_at_call 159; refine (kjoined_any _ _).mono ?_; rw [h5]; rintro e w' ⟨rfl, rfl⟩) | fail)
                                                    go_ret
                                                    exact ⟨by rw [HW.out, ← H11.out]; simp [h1, h2, h3, h4, h5], rfl⟩
                                                  | false =>
                                                    go_wp2_with (first | (go_at_call 159; refine (kjoined_any _ _).mono ?_; rw [h2]; rintro e w' ⟨rfl, rfl⟩) | (go_at_call 159; refine (kjoined_any _ _).mono ?_; rw [h5]; rintro e w' ⟨rfl, rfl⟩) | fail)
                                                    go_ret
                                                    exact ⟨by rw [HW.out, ← H11.out]; simp [h1, h2, h3, h4, h5], rfl⟩
                                                | false =>
                                                  go_wp2_with (first | (go_at_call 159; refine (kjoined_any _ _).mono ?_; rw [h2]; rintro e w' ⟨rfl, rfl⟩) | fail)
                                                  go_ret
                                                  exact ⟨by rw [HW.out, ← H11.out]; simp [h1, h2, h3, h4], rfl⟩
                                            | false =>
                                              cases h3 : (a == 17) with
                                              | true =>
                                                cases h4 : (q == 17) with
                                                | true =>
                                                  go_wp2_with (first | (go_at_call 159; refine (kjoined_any _ _).mono ?_; rw [h2]; rintro e w' ⟨rfl, rfl⟩) | fail)
                                                  go_ret
                                                  exact ⟨by rw [HW.out, ← H11.out]; simp [h1, h2, h3, h4], rfl⟩
                                                | false =>
                                                  cases h5 : wJoin q with
                                                  | true =>
                                                    go_wp2_with (first | (go_at_call 159; refine (kjoined_any _ _).mono ?_; rw [h2]; rintro e w' ⟨rfl, rfl⟩) | (go_at_call 159; refine (kjoined_any _ _).mono ?_; rw [h5]; rintro e w' ⟨rfl, rfl⟩) | fail)
                                                    go_ret
                                                    exact ⟨by rw [HW.out, ← H11.out]; simp [h1, h2, h3, h4, h5], rfl⟩
                                                  | false =>
                                                    go_wp2_with (first | (go_at_call 159; refine (kjoined_any _ _).mono ?_; rw [h2]; rintro e w' ⟨rfl, rfl⟩) | (go_at_call 159; refine (kjoined_any _ _).mono ?_; rw [h5]; rintro e w' ⟨rfl, rfl⟩) | fail)
                                                    go_ret
                                                    exact ⟨by rw [HW.out, ← H11.out]; simp [h1, h2, h3, h4, h5], rfl⟩
                                              | false =>
                                                go_wp2_with (first | (go_at_call 159; refine (kjoined_any _ _).mono ?_; rw [h2]; rintro e w' ⟨rfl, rfl⟩) | fail)
                                                go_ret
                                                exact ⟨by rw [HW.out, ← H11.out]; simp [h1, h2, h3], rfl⟩
end Go.Proofs.YthlnfefpdmecaaaGreatDoor

/-
  word: may one cut there? walked.
-/
namespace Go.Proofs.YthlnfefpdmecaaaGreatDoor
open Go.RowKit

/-- back, of what back has given. -/
def wBack2 (c : List Int) (b : Int) : Int := if b < 0 then -2 else wBack c b.toNat
theorem wBack2_bd (c : List Int) (b : Int) (hb : -1 ≤ b) : -2 ≤ wBack2 c b ∧ (wBack2 c b ≤ b) := by
  unfold wBack2
  split
  · omega
  · have := wBack_lt c b.toNat
    omega
theorem wOf_back2 (c : List Int) (b : Int) : wOf c (wBack2 c b) = wOf c (wBack c b.toNat) := by
  unfold wBack2
  split
  · rw [show b.toNat = 0 by omega]
    unfold wOf wBack
    rw [if_pos (.inl (by omega)), if_pos (.inl (by omega))]
  · rfl
set_option maxRecDepth 100000 in
set_option maxHeartbeats 2000000 in
theorem kback2_any (A B : Option Addr) (na ca n cb : Nat) (z : Int) (c : List Int) (b : Int) (w : World) (hB : Rd w 1 B (c.map encZ)) (hl : c.length = n) (hb : -1 ≤ b ∧ b ≤ n) (hn : n ≤ 4000000) :
    Calls Tryz.prog 123 #[.agg #[.slice A na ca, .slice B n cb, .int .i64 z], .int .i64 b] w fun e w' => e = .returned (.int .i64 (wBack2 c b)) ∧ Below w.heap.size w w' := by
  rcases (by omega : b < 0 ∨ 0 ≤ b) with h | h
  · have HV : Hid (wBack2 c b = b - 1) := Lib.hid (by unfold wBack2; rw [if_pos h]; omega)
    have hBz : Below w.heap.size w (w.alloc (.cells #[.slice A na ca, .slice B n cb, .int .i64 z] 75)) := (Below.refl _ _).alloc (Nat.le_refl _) _
    clear hB hl
    go_enter Tryz.func123, Tryz.ntmps123
    go_wp2
    go_loopw [1] (fun v wr => ∃ x : Int, v = .int .i64 x ∧ x < 0 ∧ Hid (x = b - 1) ∧ wr = w.alloc (.cells #[.slice A na ca, .slice B n cb, .int .i64 z] 75)) (fun v _ => (intOf v + 1).toNat)
    case atStart => exact ⟨b - 1, by go_num, by omega, Lib.hid rfl, rfl⟩
    case round =>
      obtain ⟨x, rfl, hx, HX, rfl⟩ := hrel
      have hx0 : ¬ 0 ≤ x := by omega
      go_wp2
      go_ret
      exact ⟨by rw [HV.out, ← HX.out]; rfl, hBz⟩
  · have := kback_any A B na ca n cb z c b.toNat w hB hl (by omega) hn
    rw [show ((b.toNat : Nat) : Int) = b by omega] at this
    unfold wBack2
    rw [if_neg (by omega)]
    exact this

set_option maxRecDepth 100000 in
set_option maxHeartbeats 8000000 in
theorem kcut_any (A B : Option Addr) (na ca n cb : Nat) (z : Int) (c : List Int) (i : Nat) (w : World) (hB : Rd w 1 B (c.map encZ)) (hl : c.length = n) (hi : 1 ≤ i) (hin : i < n) (hn : n ≤ 3000000) :
    Calls Tryz.prog 84 #[.agg #[.slice A na ca, .slice B n cb, .int .i64 z], .int .i64 i] w fun e w' => e = .returned (.bool (wCut c i)) ∧ Below w.heap.size w w' := by
  obtain ⟨p, Hp⟩ : ∃ p, Hid (c[i - 1]? = some p) := ⟨_, Lib.hid (List.getElem?_eq_getElem (by omega))⟩
  obtain ⟨q, Hq⟩ : ∃ q, Hid (c[i]? = some q) := ⟨_, Lib.hid (List.getElem?_eq_getElem (by omega))⟩
  have hBz : Below w.heap.size w (w.alloc (.cells #[.slice A na ca, .slice B n cb, .int .i64 z] 75)) := (Below.refl _ _).alloc (Nat.le_refl _) _
  have hK := Blk.new w 75 #[.slice A na ca, .slice B n cb, .int .i64 z]
  have k0 := hK.cell 0
  have k1 := hK.cell 1
  have k2 := hK.cell 2
  simp only [List.getElem?_toArray, List.getElem?_cons_zero, List.getElem?_cons_succ] at k0 k1 k2
  have hb0 := wBack_lt c i
  obtain ⟨b, Hb⟩ : ∃ b, Hid (wBack c i = b) := ⟨_, Lib.hid rfl⟩
  rw [Hb.out] at hb0
  have hy0 := wBack2_bd c b hb0.2
  obtain ⟨y, Hy⟩ : ∃ y, Hid (wBack2 c b = y) := ⟨_, Lib.hid rfl⟩
  rw [Hy.out] at hy0
  obtain ⟨N1, HN1⟩ : ∃ N1, Hid (wOn c i = N1) := ⟨_, Lib.hid rfl⟩
  obtain ⟨R1, HR1⟩ : ∃ R1, Hid (wReg c i = R1) := ⟨_, Lib.hid rfl⟩
  obtain ⟨x1, H1⟩ : ∃ x, Hid ((p == 1 && q == 2) = x) := ⟨_, Lib.hid rfl⟩
  obtain ⟨x2, H2⟩ : ∃ x, Hid ((wEnd p || wEnd q) = x) := ⟨_, Lib.hid rfl⟩
  obtain ⟨x3, H3⟩ : ∃ x, Hid ((p == 5 && q == 19) = x) := ⟨_, Lib.hid rfl⟩
  obtain ⟨x4, H4⟩ : ∃ x, Hid ((p == 18 && q == 18) = x) := ⟨_, Lib.hid rfl⟩
  obtain ⟨x5, H5⟩ : ∃ x, Hid (wHang q = x) := ⟨_, Lib.hid rfl⟩
  obtain ⟨x6, H6⟩ : ∃ x, Hid (wLetters (wOf c y) (wOf c b) q N1 = x) := ⟨_, Lib.hid rfl⟩
  have HW : Hid (wCut c i = if x1 then false else if x2 then true else if (x3 || x4 || x5) then false else if x6 then false else (!(q == 7) || R1 % 2 == 0)) := Lib.hid (by
    rw [← H1.out, ← H2.out, ← H3.out, ← H4.out, ← H5.out, ← H6.out, ← HN1.out, ← HR1.out, ← Hy.out, wOf_back2, ← Hb.out]
    unfold wCut
    rw [getD_of Hp.out, getD_of Hq.out]
    simp only [Bool.and_eq_true, beq_iff_eq])
  have HCb : Hid (∀ W, Below w.heap.size w W → Calls Tryz.prog 123 #[.agg #[.slice A na ca, .slice B n cb, .int .i64 z], .int .i64 i] W fun e w' => e = .returned (.int .i64 b) ∧ Below W.heap.size W w') :=
    Lib.hid (fun W h => by rw [← Hb.out]; exact kback_any A B na ca n cb z c i W (hB.below h) hl (by omega) (by omega))
  have HCy : Hid (∀ W, Below w.heap.size w W → Calls Tryz.prog 123 #[.agg #[.slice A na ca, .slice B n cb, .int .i64 z], .int .i64 b] W fun e w' => e = .returned (.int .i64 y) ∧ Below W.heap.size W w') :=
    Lib.hid (fun W h => by rw [← Hy.out]; exact kback2_any A B na ca n cb z c b W (hB.below h) hl (by omega) (by omega))
  have HCof : Hid (∀ (k : Int) W, Below w.heap.size w W → (-10 ≤ k ∧ k ≤ 4000000) → Calls Tryz.prog 125 #[.agg #[.slice A na ca, .slice B n cb, .int .i64 z], .int .i64 k] W fun e w' => e = .returned (.int .i64 (wOf c k)) ∧ Below W.heap.size W w') :=
    Lib.hid (fun k W h hk => kof_any A B na ca n cb z c k W (hB.below h) hl (by omega) hk)
  have HCN : Hid (∀ W, Below w.heap.size w W → Calls Tryz.prog 126 #[.agg #[.slice A na ca, .slice B n cb, .int .i64 z], .int .i64 i] W fun e w' => e = .returned (.int .i64 N1) ∧ Below W.heap.size W w') :=
    Lib.hid (fun W h => by rw [← HN1.out]; exact kon_any A B na ca n cb z c i W (hB.below h) hl hin (by omega))
  have HCR : Hid (∀ W, Below w.heap.size w W → Calls Tryz.prog 127 #[.agg #[.slice A na ca, .slice B n cb, .int .i64 z], .int .i64 i] W fun e w' => e = .returned (.int .i64 (R1 : Nat)) ∧ Below W.heap.size W w') :=
    Lib.hid (fun W h => by rw [← HR1.out]; exact kregions_any A B na ca n cb z c i W (hB.below h) hl (by omega) (by omega))
  obtain ⟨blk, off, eB, hc1⟩ := hB.atZ Hp.out
  obtain ⟨blk2, off2, eB2, hc2⟩ := hB.atZ Hq.out
  obtain ⟨rfl, rfl⟩ : blk = blk2 ∧ off = off2 := by rw [eB] at eB2; injection eB2 with e; injection e with e1 e2; exact ⟨e1, e2⟩
  have hc1 := cell_keep hc1 hBz
  have hc2 := cell_keep hc2 hBz
  subst eB
  clear eB2 hB hl Hb Hy HN1 HR1 Hp Hq hK
  obtain ⟨j, rfl⟩ : ∃ j, i = j + 1 := ⟨i - 1, by omega⟩
  rw [Nat.add_sub_cancel] at hc1
  go_enter Tryz.func84, Tryz.ntmps84
  have e1 : ((j + 1 : Nat) : Int) - 1 = (j : Int) := by omega
  go_upto_region 1 with fail
  go_region
  have hB1 := below_drewN hBz 1
  have k0 : (w.alloc (.cells #[.slice A na ca, .slice (some ⟨blk, off, none⟩) n cb, .int .i64 z] 75)).drew.cell? ⟨w.heap.size, 0, none⟩ = _ := k0
  have k1 : (w.alloc (.cells #[.slice A na ca, .slice (some ⟨blk, off, none⟩) n cb, .int .i64 z] 75)).drew.cell? ⟨w.heap.size, 1, none⟩ = _ := k1
  have k2 : (w.alloc (.cells #[.slice A na ca, .slice (some ⟨blk, off, none⟩) n cb, .int .i64 z] 75)).drew.cell? ⟨w.heap.size, 2, none⟩ = _ := k2
  clear hc1 hc2 hBz
  have hB1 : Below w.heap.size w (w.alloc (.cells #[.slice A na ca, .slice (some ⟨blk, off, none⟩) n cb, .int .i64 z] 75)).drew := hB1
  generalize (w.alloc (.cells #[.slice A na ca, .slice (some ⟨blk, off, none⟩) n cb, .int .i64 z] 75)).drew = w1 at hB1 k0 k1 k2 ⊢
  go_upto_region 2 with fail
  go_cut [19] from 19 (fun v wx => v = .bool x1 ∧ w1 = wx)
  case first =>
    cases h1 : (p == 1) with
    | false => go_wp2_with fail; go_meet; exact ⟨by rw [← H1.out, h1]; rfl, rfl⟩
    | true =>
      cases h2 : (q == 2) with
      | false => go_wp2_with fail; go_meet; exact ⟨by rw [← H1.out, h1, h2]; rfl, rfl⟩
      | true => go_wp2_with fail; go_meet; exact ⟨by rw [← H1.out, h1, h2]; rfl, rfl⟩
  case rest =>
    obtain ⟨rfl, rfl⟩ := hcut
    cases x1 with
    | true =>
      go_wp2
      go_ret
      exact ⟨by rw [HW.out]; simp, hB1⟩
    | false =>
      go_upto_region 4 with fail
      go_cut [26] from 19 (fun v wx => v = .bool x2 ∧ w1 = wx)
      case first =>
        cases h1 : wEnd p with
        | true => go_wp2_with (go_at_call 76; refine (kends_any _ _).mono ?_; rw [h1]; rintro e w' ⟨rfl, rfl⟩); go_meet; exact ⟨by rw [← H2.out, h1]; rfl, rfl⟩
        | false =>
          cases h2 : wEnd q with
          | false => go_wp2_with (go_at_call 76; refine (kends_any _ _).mono ?_; (first | rw [h1] | rw [h2]); rintro e w' ⟨rfl, rfl⟩); go_meet; exact ⟨by rw [← H2.out, h1, h2]; rfl, rfl⟩
          | true => go_wp2_with (go_at_call 76; refine (kends_any _ _).mono ?_; (first | rw [h1] | rw [h2]); rintro e w' ⟨rfl, rfl⟩); go_meet; exact ⟨by rw [← H2.out, h1, h2]; rfl, rfl⟩
      case rest =>
        obtain ⟨rfl, rfl⟩ := hcut
        cases x2 with
        | true =>
          go_wp2
          go_ret
          exact ⟨by rw [HW.out]; simp, hB1⟩
        | false =>
          go_upto_region 6 with fail
          go_cut [33] from 19 (fun v wx => v = .bool x3 ∧ w1 = wx)
          case first =>
            cases h1 : (p == 5) with
            | false => go_wp2_with fail; go_meet; exact ⟨by rw [← H3.out, h1]; rfl, rfl⟩
            | true =>
              cases h2 : (q == 19) with
              | false => go_wp2_with fail; go_meet; exact ⟨by rw [← H3.out, h1, h2]; rfl, rfl⟩
              | true => go_wp2_with fail; go_meet; exact ⟨by rw [← H3.out, h1, h2]; rfl, rfl⟩
          case rest =>
            obtain ⟨rfl, rfl⟩ := hcut
            cases x3 with
            | true =>
              go_wp2
              go_ret
              exact ⟨by rw [HW.out]; simp, hB1⟩
            | false =>
              go_upto_region 7 with fail
              go_cut [33] from 19 (fun v wx => v = .bool x4 ∧ w1 = wx)
              case first =>
                cases h1 : (p == 18) with
                | false => go_wp2_with fail; go_meet; exact ⟨by rw [← H4.out, h1]; rfl, rfl⟩
                | true =>
                  cases h2 : (q == 18) with
                  | false => go_wp2_with fail; go_meet; exact ⟨by rw [← H4.out, h1, h2]; rfl, rfl⟩
                  | true => go_wp2_with fail; go_meet; exact ⟨by rw [← H4.out, h1, h2]; rfl, rfl⟩
              case rest =>
                obtain ⟨rfl, rfl⟩ := hcut
                cases x4 with
                | true =>
                  go_wp2
                  go_ret
                  exact ⟨by rw [HW.out]; simp, hB1⟩
                | false =>
                  go_upto_region 8 with fail
                  go_cut [33] from 19 (fun v wx => v = .bool x5 ∧ w1 = wx)
                  case first =>
                    go_wp2_with (go_at_call 78; refine (khangs_any _ _).mono ?_; rw [H5.out]; rintro e w' ⟨rfl, rfl⟩); go_meet; exact ⟨rfl, rfl⟩
                  case rest =>
                    obtain ⟨rfl, rfl⟩ := hcut
                    cases x5 with
                    | true =>
                      go_wp2
                      go_ret
                      exact ⟨by rw [HW.out]; simp, hB1⟩
                    | false =>
                      go_upto_region 10 with fail
                      go_wp2_with fail
                      refine (HCb.out _ hB1).mono ?_
                      rintro e w2 ⟨rfl, hb2⟩
                      replace k0 := cell_keep k0 hb2
                      replace k1 := cell_keep k1 hb2
                      replace k2 := cell_keep k2 hb2
                      replace hB1 := below_step hB1 hb2 hB1.size
                      go_upto_region 11 with fail
                      go_cut [63] from 19 (fun v wx => v = .bool x6 ∧ wx.cell? ⟨w.heap.size, 0, none⟩ = some (.slice A na ca) ∧ wx.cell? ⟨w.heap.size, 1, none⟩ = some (.slice (some ⟨blk, off, none⟩) n cb) ∧ wx.cell? ⟨w.heap.size, 2, none⟩ = some (.int .i64 z) ∧ Below w.heap.size w wx)
                      case first =>
                        clear HCb HCR
                        have HST := Lib.hid (fun (V : World) (h : Below w2.heap.size w2 V) => And.intro (cell_keep k0 h) (And.intro (cell_keep k1 h) (And.intro (cell_keep k2 h) h)))
                        have HB1 := Lib.hid (fun (V : World) (h : Below w2.heap.size w2 V) => below_step hB1 h hB1.size)
                        go_region_held3 (fun V => V.cell? ⟨w.heap.size, 0, none⟩ = some (.slice A na ca) ∧ V.cell? ⟨w.heap.size, 1, none⟩ = some (.slice (some ⟨blk, off, none⟩) n cb) ∧ V.cell? ⟨w.heap.size, 2, none⟩ = some (.int .i64 z) ∧ Below w2.heap.size w2 V)
                          (first | exact HST.out _ Ba | exact HST.out _ Bb | exact HST.out _ Bd | exact HST.out _ (Below.refl _ _) | exact HST.out _ (below_drewN (Below.refl _ _) 1))
                          (first
                            | (go_at_call 123; go_split_ands; refine (HCy.out _ (HB1.out _ (by assumption))).mono ?_; rintro e wa ⟨rfl, hz⟩; have Ba := below_two (by assumption) hz)
                            | (go_at_call 125; go_split_ands; refine (HCof.out _ _ (HB1.out _ (by assumption)) (by omega)).mono ?_; rintro e wb ⟨rfl, hz⟩; have Bb := below_two (by assumption) hz)
                            | (go_at_call 126; go_split_ands; refine (HCN.out _ (HB1.out _ (by assumption))).mono ?_; rintro e wd ⟨rfl, hz⟩; have Bd := below_two (by assumption) hz)
                            | (go_at_call 124; go_split_ands; refine (kletters_any _ _ _ _ _).mono ?_; rw [H6.out]; rintro e we ⟨rfl, rfl⟩))
                        go_wp2_with fail
                        go_meet
                        first | exact ⟨rfl, HST.out _ Bb |>.1, HST.out _ Bb |>.2.1, HST.out _ Bb |>.2.2.1, HB1.out _ Bb⟩ | exact ⟨rfl, (HST.out _ Bd).1, (HST.out _ Bd).2.1, (HST.out _ Bd).2.2.1, HB1.out _ Bd⟩
                      case rest =>
                        obtain ⟨rfl, k0, k1, k2, hB2⟩ := hcut
                        cases x6 with
                        | true =>
                          go_wp2
                          go_ret
                          exact ⟨by rw [HW.out]; simp, hB2⟩
                        | false =>
                          cases h7 : (q != 7) with
                          | true =>
                            have HV : Hid (wCut c (j + 1) = true) := Lib.hid (by rw [HW.out]; simp [show (q == 7) = false by simpa using h7])
                            go_wp2
                            go_ret
                            exact ⟨by rw [HV.out]; rfl, hB2⟩
                          | false =>
                            have HV : Hid (wCut c (j + 1) = ((R1 : Int) % 2 == 0)) := Lib.hid (by
                              rw [HW.out]
                              simp only [show (q == 7) = true by simpa using h7, Bool.false_eq_true, if_false, Bool.or_self, Bool.not_true, Bool.false_or]
                              rcases (by omega : R1 % 2 = 0 ∨ R1 % 2 = 1) with h | h
                              · rw [h, show (R1 : Int) % 2 = 0 by omega]; rfl
                              · rw [h, show (R1 : Int) % 2 = 1 by omega]; rfl)
                            go_wp2_with fail
                            refine (HCR.out _ hB2).mono ?_
                            rintro e w3 ⟨rfl, hb3⟩
                            go_wp2
                            go_ret
                            exact ⟨by rw [HV.out]; rfl, below_step hB2 hb3 hB2.size⟩
end Go.Proofs.YthlnfefpdmecaaaGreatDoor

/-
  PLAIN: databases that are written down: checked by reckoning; the two texts that every statement of kerflaw04 tries. No walk.
-/
namespace Go.Proofs.YthlnfefpdmecaaaGreatDoor

def offB (x y : Int × Int × Nat) : Bool := decide (x.2.1 < y.1) || decide (y.2.1 < x.1)
def offAll : List (Int × Int × Nat) → Bool
  | [] => true
  | x :: r => r.all (offB x) && offAll r
theorem offAll_spec : ∀ {l : List (Int × Int × Nat)}, offAll l = true → l.Pairwise Off
  | [], _ => .nil
  | x :: r, h => by
    simp only [offAll, Bool.and_eq_true, List.all_eq_true] at h
    refine .cons (fun y hy => ?_) (offAll_spec h.2)
    have := h.1 y hy
    simpa [offB, Off] using this
theorem entG_apart : ∀ {S : List (List (Int × Int))} {c : Nat}, (entG c S).Pairwise Off → Apart S
  | [], c, _ => fun i j a b hi => by simp at hi
  | s :: S, c, h => by
    unfold entG at h
    rw [List.pairwise_append] at h
    have ih := entG_apart h.2.1
    have hx : ∀ (j : Nat) (b : List (Int × Int)), S[j]? = some b → ∀ r, memR s r → memR b r → False := fun j b hb r ⟨x, hx, h1, h2⟩ ⟨y, hy, h3, h4⟩ => by
      have := h.2.2 (x.1, x.2, c) (List.mem_map.2 ⟨x, hx, rfl⟩) (y.1, y.2, c + 1 + j) (mem_entG.2 ⟨j, b, hb, hy, rfl⟩)
      unfold Off at this; simp only at this; omega
    intro i j a b hi hj hij r ha hb
    cases i with
    | zero =>
      cases j with
      | zero => omega
      | succ j => simp at hi hj; subst hi; exact hx j b hj r ha hb
    | succ i =>
      cases j with
      | zero => simp at hi hj; subst hj; exact hx i a hi r hb ha
      | succ j => exact ih i j a b (by simpa using hi) (by simpa using hj) (by omega) r ha hb
def nfB : List (Int × Int) → Bool
  | [] => true
  | x :: r => decide (0 ≤ x.1) && decide (x.1 ≤ x.2) && decide (x.2 ≤ 1114111) && r.all (fun y => decide (x.2 + 1 < y.1)) && nfB r
theorem nfB_spec : ∀ {l : List (Int × Int)}, nfB l = true → NF l
  | [], _ => ⟨trivial, by simp⟩
  | x :: r, h => by
    simp only [nfB, Bool.and_eq_true, List.all_eq_true, decide_eq_true_eq] at h
    obtain ⟨⟨⟨⟨h1, h2⟩, h3⟩, h4⟩, h5⟩ := h
    have ih := nfB_spec h5
    refine ⟨⟨h2, h4, ih.1⟩, fun y hy => ?_⟩
    rcases List.mem_cons.1 hy with rfl | hy
    · exact ⟨h1, h3⟩
    · exact ih.2 y hy
def nodB : List (List UInt8) → Bool
  | [] => true
  | x :: r => r.all (fun y => !(y == x)) && nodB r
theorem nodB_spec : ∀ {l : List (List UInt8)}, nodB l = true → l.Nodup
  | [], _ => .nil
  | x :: r, h => by
    simp only [nodB, Bool.and_eq_true, List.all_eq_true] at h
    refine List.nodup_cons.2 ⟨fun hx => ?_, nodB_spec h.2⟩
    have := h.1 x hx
    simp at this
/-- A database that is written down is one. -/
def DbP.okB (d : DbP) : Bool :=
  decide (d.sets.length = d.names.length) && d.sets.all nfB && nodB d.names && decide (d.names.head? = some otherL) && decide (d.sets.head? = some []) && decide (d.names.length ≤ 64) && offAll (entG 0 d.sets) && d.names.all nameL
theorem DbP.okB_spec {d : DbP} (h : d.okB = true) : d.Ok ∧ Apart d.sets ∧ d.Named := by
  simp only [DbP.okB, Bool.and_eq_true, List.all_eq_true, decide_eq_true_eq] at h
  obtain ⟨⟨⟨⟨⟨⟨⟨h1, h2⟩, h3⟩, h4⟩, h5⟩, h6⟩, h7⟩, h8⟩ := h
  exact ⟨⟨h1, fun l hl => nfB_spec (h2 l hl), nodB_spec h3, h4, h5, h6⟩, entG_apart (offAll_spec h7), h8⟩
/-- Whose text it is, of that it is the database. -/
theorem new_of {d : DbP} {t : List UInt8} (h : d.okB = true) (ht : (d.text == t) = true) (hl : decide (t.length ≤ 65536) = true) : newP t = .ok d := by
  obtain ⟨h1, h2, h3⟩ := DbP.okB_spec h
  have e : d.text = t := by simpa using ht
  subst e
  exact text_back h1 h2 h3 (by simpa using hl)

/- The two texts. -/
def extL : List UInt8 := [69, 120, 116, 101, 110, 100]
def letL : List UInt8 := [76, 101, 116, 116, 101, 114]
def smallD : DbP := ⟨[otherL, extL, letL], [[], [(768, 879)], [(97, 122), (233, 233)]]⟩
def smallT : List UInt8 := [85, 43, 48, 51, 48, 48, 45, 85, 43, 48, 51, 54, 70, 32, 59, 32, 69, 120, 116, 101, 110, 100, 10, 85, 43, 48, 48, 54, 49, 45, 85, 43, 48, 48, 55, 65, 32, 85, 43, 48, 48, 69, 57, 32, 59, 32, 76, 101, 116, 116, 101, 114, 10]
set_option maxRecDepth 100000 in
theorem small_ok : smallD.okB = true := by decide
set_option maxRecDepth 100000 in
theorem small_text : smallD.text = smallT := by decide
theorem new_small : newP smallT = .ok smallD := new_of small_ok (by rw [small_text]; simp) (by decide)
theorem small_get : smallD.get 101 = 2 ∧ smallD.get 769 = 1 ∧ smallD.get 65533 = 0 := by decide
theorem small_class : smallD.num letL = some 2 := by decide
theorem small_rng : smallD.rng.length = 3 := by rw [(rng_perm _).length_eq]; decide
/-- "'a' ; A", "'a'-'b' ; B". -/
def clashL1 : List UInt8 := [39, 97, 39, 32, 59, 32, 65]
def clashL2 : List UInt8 := [39, 97, 39, 45, 39, 98, 39, 32, 59, 32, 66]
def clashT : List UInt8 := clashL1 ++ 10 :: clashL2
theorem clash_says1 : lineP clashL1 = .says [65] [39, 97, 39, 32] := by rfl
theorem clash_says2 : lineP clashL2 = .says [66] [39, 97, 39, 45, 39, 98, 39, 32] := by rfl
theorem clash_parse1 : parseE (spcL [39, 97, 39, 32]) = .ok [(97, 97)] := by rfl
theorem clash_parse2 : parseE (spcL [39, 97, 39, 45, 39, 98, 39, 32]) = .ok [(97, 98)] := by rfl
theorem clash_nf1 : normR [(97, 97)] = [(97, 97)] := normR_of_NF (nfB_spec (by decide))
theorem clash_nf2 : normR [(97, 98)] = [(97, 98)] := normR_of_NF (nfB_spec (by decide))
theorem clash_or : orR [] [(97, 97)] = [(97, 97)] := by unfold orR; exact clash_nf1
theorem clash_step1 : stepL DbP.first clashL1 = .ok ⟨[otherL, [65]], [[], [(97, 97)]]⟩ := by
  unfold stepL
  rw [clash_says1]
  simp only
  unfold addL
  rw [if_neg (by decide), clash_parse1]
  simp only
  rw [clash_nf1, clash_or]
  rfl
theorem clash_step2 : stepL ⟨[otherL, [65]], [[], [(97, 97)]]⟩ clashL2 = .error 41 := by
  unfold stepL
  rw [clash_says2]
  simp only
  unfold addL
  rw [if_neg (by decide), clash_parse2]
  simp only
  rw [clash_nf2]
  rfl
theorem new_clash : newP clashT = .error (41, 2) := by
  unfold newP
  rw [if_neg (by decide)]
  have : splitL clashT = [clashL1, clashL2] := by decide
  rw [this]
  unfold linesGo
  rw [clash_step1]
  simp only
  unfold linesGo
  rw [clash_step2]
end Go.Proofs.YthlnfefpdmecaaaGreatDoor

/-
  PLAIN: a database's text read by a reckoning that the kernel can run; the same. No walk.
-/
namespace Go.Proofs.YthlnfefpdmecaaaGreatDoor

def insK (x : Int × Int) : List (Int × Int) → List (Int × Int)
  | [] => [x]
  | y :: r => if x.1 ≤ y.1 then x :: y :: r else y :: insK x r
def sortK : List (Int × Int) → List (Int × Int)
  | [] => []
  | x :: r => insK x (sortK r)
theorem insK_perm (x : Int × Int) : ∀ (l : List (Int × Int)), (insK x l).Perm (x :: l)
  | [] => .refl _
  | y :: r => by
    unfold insK
    split
    · exact .refl _
    · exact ((insK_perm x r).cons y).trans (List.Perm.swap x y r)
theorem sortK_perm : ∀ (l : List (Int × Int)), (sortK l).Perm l
  | [] => .refl _
  | x :: r => (insK_perm x (sortK r)).trans ((sortK_perm r).cons x)
theorem insK_rise {x : Int × Int} : ∀ {l : List (Int × Int)}, Rise l → Rise (insK x l)
  | [], _ => by unfold insK Rise; simp
  | y :: r, h => by
    have h' := List.pairwise_cons.1 h
    unfold insK
    split
    · rename_i hxy
      refine List.pairwise_cons.2 ⟨fun z hz => ?_, h⟩
      rcases List.mem_cons.1 hz with rfl | hz
      · exact hxy
      · have := h'.1 z hz; omega
    · rename_i hxy
      refine List.pairwise_cons.2 ⟨fun z hz => ?_, insK_rise h'.2⟩
      rcases List.mem_cons.1 ((insK_perm x r).mem_iff.1 hz) with rfl | hz
      · omega
      · exact h'.1 z hz
theorem sortK_rise : ∀ (l : List (Int × Int)), Rise (sortK l)
  | [] => .nil
  | _ :: r => insK_rise (sortK_rise r)
def normK (l : List (Int × Int)) : List (Int × Int) := mergeR (sortK (keepR l))
theorem normK_eq (l : List (Int × Int)) : normK l = normR l := mergeR_eq (sortK_perm _) (sortK_rise _)
def addK (d : DbP) (name set : List UInt8) : Except Int DbP :=
  if nameL name = false ∨ name = otherL then .error 40 else
  match parseE (spcL set) with
  | .error e => .error e
  | .ok l =>
    match d.num name with
    | some c => if d.clash c (normK l) then .error 41 else .ok ⟨d.names, d.sets.set c (normK ((d.sets.getD c []) ++ normK l))⟩
    | none => if 64 ≤ d.names.length then .error 6 else if d.clash d.names.length (normK l) then .error 41 else .ok ⟨d.names ++ [name], d.sets ++ [normK l]⟩
theorem addK_eq (d : DbP) (n s : List UInt8) : addK d n s = addL d n s := by
  have e : ∀ l, normK l = orR [] (normR l) := fun l => by unfold orR; rw [normK_eq, List.nil_append, normR_of_NF (normR_NF l)]
  have e1 : ∀ a b, normK (a ++ b) = orR a b := fun a b => by rw [normK_eq]; rfl
  unfold addK addL
  split
  · rfl
  · cases parseE (spcL s) with
    | error e => rfl
    | ok l =>
      simp only
      cases d.num n with
      | some c => simp only [e1, normK_eq]
      | none => simp only; rw [e, show orR [] (normR l) = normR l by rw [← e, normK_eq]]
def stepK (d : DbP) (l : List UInt8) : Except Int DbP :=
  match lineP l with
  | .none_ => .ok d
  | .noLine => .error 42
  | .says n s => addK d n s
theorem stepK_eq (d : DbP) (l : List UInt8) : stepK d l = stepL d l := by
  unfold stepK stepL
  cases lineP l with
  | none_ => rfl
  | noLine => rfl
  | says n s => exact addK_eq d n s
def goK (d : DbP) : List (List UInt8) → Nat → Except (Int × Nat) DbP
  | [], _ => .ok d
  | l :: r, i => match stepK d l with
    | .error e => .error (e, i + 1)
    | .ok d' => goK d' r (i + 1)
theorem goK_eq : ∀ (L : List (List UInt8)) (d : DbP) (i : Nat), goK d L i = linesGo d L i
  | [], _, _ => rfl
  | l :: r, d, i => by
    unfold goK linesGo
    rw [stepK_eq]
    cases stepL d l with
    | error e => rfl
    | ok d' => exact goK_eq r d' (i + 1)
/-- A text read by the reckoning. -/
theorem new_K {t : List UInt8} {d : DbP} (hl : decide (t.length ≤ 65536) = true) (h : goK DbP.first (splitL t) 0 = .ok d) : newP t = .ok d := by
  unfold newP
  rw [if_neg (by have := of_decide_eq_true hl; omega), ← goK_eq, h]
end Go.Proofs.YthlnfefpdmecaaaGreatDoor

/-
  PLAIN: words: a line end parts a text: the cuts are those of both sides. No walk.
-/
namespace Go.Proofs.YthlnfefpdmecaaaGreatDoor

theorem wRegGo_fuel (c : List Int) : ∀ (f g i : Nat), i < f → i < g → wRegGo c f i = wRegGo c g i
  | 0, _, _, h, _ => by omega
  | _, 0, _, _, h => by omega
  | f + 1, g + 1, i, hf, hg => by
    unfold wRegGo
    split
    · rename_i h7
      have hb := wBack_lt c i
      have h0 : 0 ≤ wBack c i := by
        rcases Int.lt_or_le (wBack c i) 0 with h | h
        · have : wOf c (wBack c i) = -1 := by unfold wOf; rw [if_pos (.inl h)]
          omega
        · exact h
      rw [wRegGo_fuel c f g _ (by omega) (by omega)]
    · rfl
section
variable {A B : List Int}
theorem gw_left {i : Nat} (h : i < A.length) : (A ++ 2 :: B).getD i 0 = A.getD i 0 := by
  rw [List.getD_eq_getElem?_getD, List.getD_eq_getElem?_getD, List.getElem?_append_left h]
theorem gw_mid : (A ++ 2 :: B).getD A.length 0 = 2 := by
  rw [List.getD_eq_getElem?_getD, List.getElem?_append_right (Nat.le_refl _), Nat.sub_self]; rfl
theorem gw_right (j : Nat) : (A ++ 2 :: B).getD (A.length + 1 + j) 0 = B.getD j 0 := by
  rw [List.getD_eq_getElem?_getD, List.getD_eq_getElem?_getD, List.getElem?_append_right (by omega), show A.length + 1 + j - A.length = j + 1 by omega, List.getElem?_cons_succ]
theorem back_left : ∀ {i : Nat}, i ≤ A.length → wBack (A ++ 2 :: B) i = wBack A i
  | 0, _ => rfl
  | i + 1, h => by
    unfold wBack
    rw [gw_left (by omega), back_left (by omega)]
theorem of_left {i : Int} (h : i < A.length) : wOf (A ++ 2 :: B) i = wOf A i := by
  unfold wOf
  by_cases h0 : i < 0
  · rw [if_pos (.inl h0), if_pos (.inl h0)]
  · rw [if_neg (by rw [List.length_append, List.length_cons]; omega), if_neg (by omega), gw_left (by omega)]
theorem drop_hang : ∀ (l m : List Int), ((l ++ 2 :: m).dropWhile wHang).head?.getD (-1) = (l.dropWhile wHang).head?.getD (-1) ∨ (l.dropWhile wHang).head?.getD (-1) = -1 ∧ ((l ++ 2 :: m).dropWhile wHang).head?.getD (-1) = 2
  | [], m => .inr ⟨rfl, rfl⟩
  | x :: l, m => by
    rw [List.cons_append, List.dropWhile_cons, List.dropWhile_cons]
    split
    · exact drop_hang l m
    · exact .inl rfl
theorem on_left {i : Nat} (h : i < A.length) : wOn (A ++ 2 :: B) i = wOn A i ∨ wOn A i = -1 ∧ wOn (A ++ 2 :: B) i = 2 := by
  unfold wOn
  rw [List.drop_append_of_le_length (by omega)]
  exact drop_hang _ _
theorem letters_n (z a q : Int) : wLetters z a q 2 = wLetters z a q (-1) := by unfold wLetters; simp [wLet]
theorem letters_z (a q n : Int) : wLetters 2 a q n = wLetters (-1) a q n := by unfold wLetters; simp [wLet]
theorem letters_a {a : Int} (h : a = 2 ∨ a = -1) (z q n : Int) : wLetters z a q n = false := by
  unfold wLetters
  rcases h with rfl | rfl <;> simp [wLet, wInW, wInN, wJoin]
theorem regGo_left : ∀ (f : Nat) {i : Nat}, i ≤ A.length → wRegGo (A ++ 2 :: B) f i = wRegGo A f i
  | 0, _, _ => rfl
  | f + 1, i, h => by
    have hb := wBack_lt A i
    unfold wRegGo
    rw [back_left h, of_left (by omega), regGo_left f (by omega)]
theorem cut_left {i : Nat} (h : i < A.length) : wCut (A ++ 2 :: B) i = wCut A i := by
  unfold wCut
  dsimp only
  have hb := wBack_lt A i
  have hb2 := wBack_lt A (wBack A i).toNat
  rw [gw_left h, gw_left (by omega : i - 1 < A.length), back_left (i := i) (by omega), back_left (i := (wBack A i).toNat) (by omega), of_left (i := wBack A i) (by omega), of_left (i := wBack A (wBack A i).toNat) (by omega)]
  have hr : wReg (A ++ 2 :: B) i = wReg A i := regGo_left _ (by omega)
  rw [hr]
  rcases on_left (B := B) h with e | ⟨e1, e2⟩
  · rw [e]
  · rw [e1, e2]
    simp only [letters_n]
theorem back_right : ∀ (j : Nat), wBack (A ++ 2 :: B) (A.length + 1 + j) = if wBack B j = -1 then (A.length : Int) else A.length + 1 + wBack B j
  | 0 => by
    show wBack _ (A.length + 1) = _
    rw [wBack_here (by rw [gw_mid]; rfl)]; rfl
  | j + 1 => by
    have ih := back_right j
    have hb := wBack_lt B j
    show wBack _ ((A.length + 1 + j) + 1) = _
    rw [wBack, gw_right, ih, wBack]
    by_cases hh : wHang (B.getD j 0) = true
    · simp only [hh, if_true]
    · simp only [hh]
      simp only [Bool.false_eq_true, if_false]
      rw [if_neg (by omega)]; omega
theorem of_right (j : Nat) (hj : j ≤ B.length) : wOf (A ++ 2 :: B) (wBack (A ++ 2 :: B) (A.length + 1 + j)) = if wBack B j = -1 then 2 else wOf B (wBack B j) := by
  have hb := wBack_lt B j
  rw [back_right]
  split
  · rw [wOf_nat (by rw [List.length_append, List.length_cons]; omega), gw_mid]
  · rename_i hne
    obtain ⟨k, hk⟩ : ∃ k : Nat, wBack B j = k := ⟨(wBack B j).toNat, by omega⟩
    rw [hk, show (A.length : Int) + 1 + (k : Int) = ((A.length + 1 + k : Nat) : Int) by omega, wOf_nat (by rw [List.length_append, List.length_cons]; omega), gw_right, wOf_nat (by omega)]
theorem on_right (j : Nat) : wOn (A ++ 2 :: B) (A.length + 1 + j) = wOn B j := by
  unfold wOn
  rw [show A.length + 1 + j + 1 = A.length + (1 + (j + 1)) by omega, ← List.drop_drop, List.drop_left, ← List.drop_drop]; rfl
theorem regGo_right : ∀ (f j : Nat), j < f → j ≤ B.length → wRegGo (A ++ 2 :: B) (A.length + 1 + f) (A.length + 1 + j) = wRegGo B f j
  | 0, _, h, _ => by omega
  | f + 1, j, h, hj => by
    have hb := wBack_lt B j
    show wRegGo _ ((A.length + 1 + f) + 1) _ = _
    rw [wRegGo, of_right j hj, wRegGo]
    by_cases h0 : wBack B j = -1
    · rw [if_pos h0, if_neg (by omega), h0, if_neg (by unfold wOf; rw [if_pos (.inl (by omega))]; omega)]
    · rw [if_neg h0]
      split
      · rw [back_right, if_neg h0]
        have e : ((A.length : Int) + 1 + wBack B j).toNat = A.length + 1 + (wBack B j).toNat := by omega
        rw [e, regGo_right f _ (by omega) (by omega)]
      · rfl
theorem cut_right {j : Nat} (hj : j + 1 < B.length) : wCut (A ++ 2 :: B) (A.length + 1 + (j + 1)) = wCut B (j + 1) := by
  have hr : wReg (A ++ 2 :: B) (A.length + 1 + (j + 1)) = wReg B (j + 1) := by
    unfold wReg
    rw [show A.length + 1 + (j + 1) + 1 = A.length + 1 + (j + 1 + 1) by omega]
    exact regGo_right _ _ (by omega) (by omega)
  unfold wCut
  dsimp only
  rw [show A.length + 1 + (j + 1) - 1 = A.length + 1 + j by omega, show j + 1 - 1 = j by omega, gw_right, gw_right, hr, on_right, of_right _ (by omega), back_right]
  have hb := wBack_lt B (j + 1)
  by_cases h0 : wBack B (j + 1) = -1
  · simp only [h0, if_true]
    have ha : wOf B (-1) = -1 := by unfold wOf; rw [if_pos (.inl (by omega))]
    rw [ha]
    simp only [letters_a (.inl rfl : (2 : Int) = 2 ∨ (2 : Int) = -1), letters_a (.inr rfl : (-1 : Int) = 2 ∨ (-1 : Int) = -1)]
  · simp only [h0, if_false]
    obtain ⟨k, hk⟩ : ∃ k : Nat, wBack B (j + 1) = k := ⟨(wBack B (j + 1)).toNat, by omega⟩
    rw [hk] at hb ⊢
    rw [show ((A.length : Int) + 1 + (k : Int)).toNat = A.length + 1 + k by omega, Int.toNat_natCast, of_right k (by omega)]
    by_cases h1 : wBack B k = -1
    · have ha : wOf B (-1) = -1 := by unfold wOf; rw [if_pos (.inl (by omega))]
      simp only [h1, if_true, ha, letters_z]
    · simp only [h1, if_false]
theorem cut_mid (h : A.getD (A.length - 1) 0 ≠ 1) (hA : A ≠ []) : wCut (A ++ 2 :: B) A.length = true := by
  obtain ⟨i, hi⟩ : ∃ i, A.length = i + 1 := ⟨A.length - 1, by have := List.length_pos_iff.2 hA; omega⟩
  have hm := gw_mid (A := A) (B := B)
  rw [hi] at hm h
  rw [hi, wCut_end (.inr (by rw [hm]; rfl)), gw_left (by omega)]
  rw [Nat.add_sub_cancel] at h
  rw [decide_eq_false (fun k => h k.1)]; rfl
theorem cut_behind : wCut (A ++ 2 :: B) (A.length + 1) = true := by
  rw [wCut_end (.inl (by rw [gw_mid]; rfl)), gw_mid, decide_eq_false (by omega)]; rfl
end
end Go.Proofs.YthlnfefpdmecaaaGreatDoor

/-
  PLAIN: two texts joined by an ASCII byte: the runes are those of both sides. No walk.
-/
namespace Go.Proofs.YthlnfefpdmecaaaGreatDoor

theorem decN_cont {n b0 b1 b2 b3 R W : Nat} (h : Lib.decodeN n b0 b1 b2 b3 = (R, W)) : (2 ≤ W → 128 ≤ b1) ∧ (3 ≤ W → 128 ≤ b2) ∧ (4 ≤ W → 128 ≤ b3) ∧ W ≤ 4 := by
  unfold Lib.decodeN at h
  repeat' split at h
  all_goals (injection h with _ h; omega)
theorem dec_cont {s : ByteArray} {i k R W : Nat} (h : Utf8.decode s i = (R, W)) (hk : 0 < k) (hW : k < W) : 128 ≤ (s.get! (i + k)).toNat := by
  rw [Lib.decode_at] at h
  obtain ⟨h1, h2, h3, h4⟩ := decN_cont h
  rcases (show k = 1 ∨ k = 2 ∨ k = 3 by omega) with rfl | rfl | rfl
  · exact h1 (by omega)
  · exact h2 (by omega)
  · exact h3 (by omega)
/-- Where an ASCII byte stands a rune begins. -/
theorem ascii_at (s : ByteArray) {z : Nat} (hz : z < s.size) (ha : (s.get! z).toNat < 128) : ∀ (f a : Nat), s.size ≤ a + f → a ≤ z → ∃ x ∈ runesGo s f a, x.2.1 = z
  | 0, a, hf, hle => by omega
  | f + 1, a, hf, hle => by
    have hlt : a < s.size := by omega
    have hd := dec_bd s a hlt
    obtain ⟨⟨R, W⟩, hD⟩ : ∃ d, Utf8.decode s a = d := ⟨_, rfl⟩
    rw [hD] at hd
    simp only at hd
    have hr : runesGo s (f + 1) a = (R, a, a + W) :: runesGo s f (a + W) := by rw [runesGo, if_pos hlt, hD]
    rw [hr]
    by_cases haz : a = z
    · exact ⟨_, List.mem_cons_self, haz⟩
    · have hle2 : a + W ≤ z := by
        rcases Nat.lt_or_ge z (a + W) with h | h
        · have := dec_cont hD (k := z - a) (by omega) (by omega)
          rw [show a + (z - a) = z by omega] at this; omega
        · exact h
      obtain ⟨x, hx, e⟩ := ascii_at s hz ha f (a + W) (by omega) hle2
      exact ⟨x, List.mem_cons_of_mem _ hx, e⟩
def shR (p : Nat) (x : Nat × Nat × Nat) : Nat × Nat × Nat := (x.1, x.2.1 + p, x.2.2 + p)
/-- From a place on the runes are those of what stands there. -/
theorem runes_shift (u t : ByteArray) (p : Nat) (hz : u.size = t.size + p) (hg : ∀ k, u.get! (p + k) = t.get! k) : ∀ (f g a : Nat), t.size ≤ a + f → t.size ≤ a + g → runesGo u g (a + p) = (runesGo t f a).map (shR p)
  | 0, g, a, hf, hgf => by rw [runesGo_end (by omega)]; rfl
  | f + 1, g, a, hf, hgf => by
    by_cases hlt : a < t.size
    · obtain ⟨k, rfl, hk⟩ := runesGo_step (s := u) (f := g) (a := a + p) (by omega) (by omega)
      have hd : Utf8.decode u (a + p) = Utf8.decode t a := by
        rw [Lib.decode_at, Lib.decode_at, show u.size - (a + p) = t.size - a by omega]
        rw [show a + p = p + a by omega, hg, show p + a + 1 = p + (a + 1) by omega, show p + a + 2 = p + (a + 2) by omega, show p + a + 3 = p + (a + 3) by omega, hg, hg, hg]
      have hb := dec_bd t a hlt
      rw [hk, hd, runesGo, if_pos hlt, List.map_cons]
      rw [show a + p + (Utf8.decode t a).2 = a + (Utf8.decode t a).2 + p by omega, runes_shift u t p hz hg f k _ (by omega) (by omega)]; rfl
    · rw [runesGo_end (by omega), runesGo_end (s := t) (by omega)]; rfl
theorem split_at_place (s : ByteArray) {z : Nat} : ∀ (f a : Nat), s.size ≤ a + f → (∃ x ∈ runesGo s f a, x.2.1 = z) → runesGo s f a = ((runesGo s f a).takeWhile fun x => decide (x.2.1 < z)) ++ runesGo s s.size z
  | 0, a, hf, hx => by simp [runesGo] at hx
  | f + 1, a, hf, hx => by
    have hlt : a < s.size := by
      rcases Nat.lt_or_ge a s.size with h | h
      · exact h
      · rw [runesGo_end h] at hx; simp at hx
    have hd := dec_bd s a hlt
    have hr : runesGo s (f + 1) a = ((Utf8.decode s a).1, a, a + (Utf8.decode s a).2) :: runesGo s f (a + (Utf8.decode s a).2) := by rw [runesGo, if_pos hlt]
    obtain ⟨x, hm, hxz⟩ := hx
    rw [hr] at hm ⊢
    by_cases haz : a = z
    · subst haz
      rw [List.takeWhile_cons, if_neg (by simp), List.nil_append]
      obtain ⟨k, hk, e⟩ := runesGo_step (s := s) (f := s.size) (a := a) hlt (by omega)
      rw [e]
      congr 1
      have := runes_shift s s 0 (by omega) (fun k => by rw [Nat.zero_add]) f k (a + (Utf8.decode s a).2) (by omega) (by omega)
      rw [Nat.add_zero] at this
      rw [this]
      exact (List.map_id'' (fun y => by simp [shR]) _).symm
    · rcases List.mem_cons.1 hm with rfl | hm
      · exact absurd hxz haz
      · have hb := runesGo_bd _ _ x hm
        rw [List.takeWhile_cons, if_pos (by simp; omega), List.cons_append]
        congr 1
        exact split_at_place s f _ (by omega) ⟨x, hm, hxz⟩
/-- A text, an ASCII byte, a text. -/
theorem runes_join (s t : ByteArray) (c : UInt8) (hc : c.toNat < 128) {u : ByteArray} (hu : u.data.toList = s.data.toList ++ c :: t.data.toList) :
    runesP u = runesP s ++ (c.toNat, s.size, s.size + 1) :: (runesP t).map (shR (s.size + 1)) := by
  have hz : u.size = s.size + 1 + t.size := by rw [← size_data, hu, List.length_append, List.length_cons, size_data, size_data]; omega
  have hget : ∀ k, u.get! k = u.data.toList.getD k 0 := fun k => (Lib.getD_get!' u k).symm
  have hgc : u.get! s.size = c := by
    rw [hget, hu, List.getD_eq_getElem?_getD, List.getElem?_append_right (by rw [size_data]; exact Nat.le_refl _), size_data, Nat.sub_self]; rfl
  have hplace := ascii_at u (z := s.size) (by omega) (by rw [hgc]; exact hc) u.size 0 (by omega) (Nat.zero_le _)
  have hs : u.extract 0 s.size = s := by
    have : (u.extract 0 s.size).data.toList = s.data.toList := by
      rw [ByteArray.data_extract, Array.toList_extract, List.extract_eq_take_drop, List.drop_zero, Nat.sub_zero, hu, List.take_append_of_le_length (by rw [size_data]; exact Nat.le_refl _), List.take_of_length_le (by rw [size_data]; exact Nat.le_refl _)]
    rw [← bytesOf_data (u.extract 0 s.size), this, bytesOf_data]
  have h1 : runesP s = (runesP u).takeWhile fun x => decide (x.2.1 < s.size) := by
    have := runesP_prefix u (z := s.size) (by omega) (.inr (.inr hplace))
    rw [hs] at this; exact this
  have h2 := split_at_place u (z := s.size) u.size 0 (by omega) hplace
  rw [h1]
  unfold runesP at h2 ⊢
  conv => lhs; rw [h2]
  congr 1
  obtain ⟨k, hk, e⟩ := runesGo_step (s := u) (f := u.size) (a := s.size) (by omega) (by omega)
  have hd : Utf8.decode u s.size = (c.toNat, 1) := by
    rw [Lib.decode_at, hgc]; unfold Lib.decodeN; rw [if_pos hc]
  rw [e, hd]
  simp only
  congr 1
  have := runes_shift u t (s.size + 1) (by omega) (fun k => by
    rw [hget, hu, ← Lib.getD_get!' t, List.getD_eq_getElem?_getD, List.getD_eq_getElem?_getD, List.getElem?_append_right (by rw [size_data]; omega), size_data, show s.size + 1 + k - s.size = k + 1 by omega, List.getElem?_cons_succ]) t.size k 0 (by omega) (by omega)
  rw [Nat.zero_add] at this
  exact this
end Go.Proofs.YthlnfefpdmecaaaGreatDoor

/-
  PLAIN: words: the bounds of a text; a line end parts them. No walk.
-/
namespace Go.Proofs.YthlnfefpdmecaaaGreatDoor

def wCls (g : Int → Nat) (s : ByteArray) : List Int := (runesP s).map fun x => (g x.1 : Int)
def wPick (c : List Int) : Nat → List Nat → List Nat
  | _, [] => []
  | i, a :: r => (if i = 0 ∨ wCut c i = true then [a] else []) ++ wPick c (i + 1) r
/-- The bounds of a text. -/
def wBounds (g : Int → Nat) (s : ByteArray) : List Nat := wPick (wCls g s) 0 ((runesP s).map (·.2.1)) ++ (if s.size = 0 then [] else [s.size])
theorem wCls_len (g : Int → Nat) (s : ByteArray) : (wCls g s).length = (runesP s).length := by simp [wCls]
theorem wPick_append (c : List Int) : ∀ (P Q : List Nat) (i : Nat), wPick c i (P ++ Q) = wPick c i P ++ wPick c (i + P.length) Q
  | [], Q, i => by simp [wPick]
  | a :: P, Q, i => by
    rw [List.cons_append, wPick, wPick, wPick_append c P Q (i + 1), List.append_assoc, List.length_cons, show i + 1 + P.length = i + (P.length + 1) by omega]
theorem wPick_congr {c d : List Int} : ∀ (P : List Nat) (i j : Nat), (∀ k, k < P.length → ((i + k = 0 ∨ wCut c (i + k) = true) ↔ (j + k = 0 ∨ wCut d (j + k) = true))) → wPick c i P = wPick d j P
  | [], _, _, _ => rfl
  | a :: P, i, j, h => by
    have h0 := h 0 (by simp)
    simp only [Nat.add_zero] at h0
    rw [wPick, wPick, wPick_congr P (i + 1) (j + 1) (fun k hk => by
      have := h (k + 1) (by simpa using hk)
      rw [show i + 1 + k = i + (k + 1) by omega, show j + 1 + k = j + (k + 1) by omega]; exact this)]
    congr 1
    by_cases hc : i = 0 ∨ wCut c i = true
    · rw [if_pos hc, if_pos (h0.1 hc)]
    · rw [if_neg hc, if_neg (fun k => hc (h0.2 k))]
theorem wPick_map (c : List Int) (f : Nat → Nat) : ∀ (P : List Nat) (i : Nat), wPick c i (P.map f) = (wPick c i P).map f
  | [], _ => rfl
  | a :: P, i => by
    rw [List.map_cons, wPick, wPick, wPick_map c f P (i + 1), List.map_append]
    congr 1
    split <;> rfl
/-- A line end parts a text: its bounds are those of both sides. -/
theorem wBounds_parts {g : Int → Nat} (h10 : g 10 = 2) (h13 : ∀ r : Nat, r ≤ 1114111 → g r = 1 → r = 13) {s t u : ByteArray} (hu : u.data.toList = s.data.toList ++ 10 :: t.data.toList) (hs : s.data.toList.getLast? ≠ some 13) :
    wBounds g u = (if wBounds g s = [] then [0] else wBounds g s) ++ (if wBounds g t = [] then [s.size + 1] else (wBounds g t).map (· + (s.size + 1))) := by
  have hz : u.size = s.size + 1 + t.size := by rw [← size_data, hu, List.length_append, List.length_cons, size_data, size_data]; omega
  have hr := runes_join s t 10 (by decide) hu
  have hc : wCls g u = wCls g s ++ 2 :: wCls g t := by
    unfold wCls
    rw [hr, List.map_append, List.map_cons, List.map_map]
    congr 1
    congr 1
    show ((g 10 : Nat) : Int) = 2
    rw [h10]; rfl
  have hp : (runesP u).map (·.2.1) = (runesP s).map (·.2.1) ++ s.size :: ((runesP t).map (·.2.1)).map (· + (s.size + 1)) := by
    rw [hr, List.map_append, List.map_cons, List.map_map, List.map_map]; rfl
  have hlast : wCls g s ≠ [] → (wCls g s).getD ((wCls g s).length - 1) 0 ≠ 1 := fun hne k => by
    have hl : 0 < (runesP s).length := by rw [← wCls_len g]; exact List.length_pos_iff.2 hne
    have hlt : (runesP s).length - 1 < (runesP s).length := by omega
    rw [wCls_len, List.getD_eq_getElem?_getD] at k
    unfold wCls at k
    rw [List.getElem?_map, List.getElem?_eq_getElem hlt] at k
    simp only [Option.map_some, Option.getD_some] at k
    have hx := List.getElem_mem hlt
    generalize hxe : (runesP s)[(runesP s).length - 1] = x at k hx
    have hb := runesP_bd x hx
    have h1 : x.1 = 13 := h13 x.1 hb.2.2.2 (by omega)
    have hd := runesGo_dec _ _ x hx
    have hW : x.2.2 - x.2.1 = 1 ∧ (s.get! x.2.1).toNat = 13 := by
      rw [Lib.decode_at, h1] at hd
      generalize x.2.2 - x.2.1 = W at hd
      unfold Lib.decodeN at hd
      repeat' split at hd
      all_goals (injection hd with e1 e2; omega)
    have hend : x.2.2 = s.size := by
      have hcg := runesP_contig s
      have : ∀ (r : List (Nat × Nat × Nat)) (p z : Nat) (hr : 0 < r.length), Contig p r z → (r[r.length - 1]'(by omega)).2.2 = z := by
        intro r
        induction r with
        | nil => intro p z hr; simp at hr
        | cons y r ih =>
          intro p z _ h
          cases r with
          | nil => exact h.2.2
          | cons y2 r => exact ih _ _ (by simp) h.2.2
      rw [← this _ _ _ hl hcg, hxe]
    refine hs ?_
    rw [List.getLast?_eq_getElem?, size_data]
    have hi : s.size - 1 = x.2.1 := by omega
    have hlt2 : x.2.1 < s.data.toList.length := by rw [size_data]; omega
    have h13' : s.data.toList.getD x.2.1 0 = s.get! x.2.1 := Lib.getD_get!' s _
    rw [List.getD_eq_getElem?_getD, List.getElem?_eq_getElem hlt2, Option.getD_some] at h13'
    rw [hi, List.getElem?_eq_getElem hlt2, h13']
    congr 1
    exact UInt8.toNat_inj.1 hW.2
  unfold wBounds
  rw [hp, hc]
  generalize hA : wCls g s = A at hlast
  generalize hB : wCls g t = B
  have lA : A.length = (runesP s).length := by rw [← hA, wCls_len]
  have lB : B.length = (runesP t).length := by rw [← hB, wCls_len]
  have e1 : wPick (A ++ 2 :: B) 0 ((runesP s).map (·.2.1)) = wPick A 0 ((runesP s).map (·.2.1)) := wPick_congr _ 0 0 fun k hk => by
    rw [List.length_map] at hk
    rw [Nat.zero_add, cut_left (by omega)]
  have e2 : wPick (A ++ 2 :: B) (0 + ((runesP s).map (·.2.1)).length) (s.size :: ((runesP t).map (·.2.1)).map (· + (s.size + 1))) = s.size :: (wPick B 0 ((runesP t).map (·.2.1))).map (· + (s.size + 1)) := by
    rw [Nat.zero_add, List.length_map, ← lA, wPick, if_pos, ← wPick_map]
    · rw [List.singleton_append]
      congr 1
      refine wPick_congr _ _ _ fun k hk => ?_
      rw [List.length_map, List.length_map, ← lB] at hk
      cases k with
      | zero => simp [cut_behind]
      | succ k => rw [cut_right (by omega), Nat.zero_add]; simp
    · by_cases hne : A = []
      · exact .inl (by rw [hne]; rfl)
      · exact .inr (cut_mid (hlast hne) hne)
  rw [wPick_append, e1, e2, if_neg (by omega)]
  have hsz : ∀ v : ByteArray, v.size = 0 → runesP v = [] := fun v hv => by unfold runesP; rw [hv]; rfl
  have q1 : (if wPick A 0 ((runesP s).map (·.2.1)) ++ (if s.size = 0 then [] else [s.size]) = [] then [0] else wPick A 0 ((runesP s).map (·.2.1)) ++ (if s.size = 0 then [] else [s.size])) = wPick A 0 ((runesP s).map (·.2.1)) ++ [s.size] := by
    by_cases h0 : s.size = 0
    · rw [hsz s h0, h0]; simp [wPick]
    · rw [if_neg h0, if_neg (by simp)]
  have q2 : (if wPick B 0 ((runesP t).map (·.2.1)) ++ (if t.size = 0 then [] else [t.size]) = [] then [s.size + 1] else (wPick B 0 ((runesP t).map (·.2.1)) ++ (if t.size = 0 then [] else [t.size])).map (· + (s.size + 1))) = (wPick B 0 ((runesP t).map (·.2.1))).map (· + (s.size + 1)) ++ [u.size] := by
    by_cases h0 : t.size = 0
    · rw [hsz t h0, h0, hz, h0]; simp [wPick]
    · rw [if_neg h0, if_neg (by simp), List.map_append, hz]
      simp; omega
  rw [q1, q2]
  simp
end Go.Proofs.YthlnfefpdmecaaaGreatDoor

/-
  PLAIN: the database of words' runes, as a row of names and sets; printed by gen_db.py. No walk.
-/
namespace Go.Proofs.YthlnfefpdmecaaaGreatDoor

def wordD : DbP := ⟨[otherL, [67, 114], [76, 102], [78, 101, 119, 108, 105, 110, 101], [69, 120, 116, 101, 110, 100], [90, 119, 106], [70, 111, 114, 109, 97, 116], [82, 101, 103, 105, 111, 110], [75, 97, 116, 97, 107, 97, 110, 97], [72, 101, 98, 114, 101, 119], [76, 101, 116, 116, 101, 114], [81, 117, 111, 116, 101], [68, 111, 117, 98, 108, 101], [77, 105, 100, 78, 117, 109, 76, 101, 116], [77, 105, 100, 76, 101, 116, 116, 101, 114], [77, 105, 100, 78, 117, 109], [68, 105, 103, 105, 116], [76, 111, 119], [83, 112, 97, 99, 101], [80, 105, 99, 116]], [[], [(13, 13)], [(10, 10)], [(11, 12), (133, 133), (8232, 8233)], [(768, 879), (1425, 1469), (8204, 8204), (12441, 12442), (65024, 65039), (127995, 127999)], [(8205, 8205)], [(173, 173), (8206, 8207), (8288, 8288), (65279, 65279)], [(127462, 127487)], [(12449, 12538), (12540, 12540), (65382, 65437)], [(1488, 1514)], [(65, 90), (97, 122), (170, 170), (181, 181), (192, 214), (216, 246), (248, 687), (880, 883), (902, 902), (904, 1153), (1162, 1366), (1568, 1610), (7680, 8124), (44032, 55203), (64256, 64262)], [(39, 39)], [(34, 34)], [(46, 46), (8216, 8217)], [(58, 58), (183, 183)], [(44, 44), (59, 59), (1644, 1644)], [(48, 57), (1632, 1641)], [(95, 95), (8255, 8255)], [(32, 32), (8192, 8198), (12288, 12288)], [(169, 169), (174, 174), (9728, 10175), (127744, 127994), (128000, 128591), (128640, 128767)]]⟩
set_option maxRecDepth 100000 in
theorem word_ok : wordD.okB = true := by kernel_rfl
theorem wordOk : wordD.Ok ∧ Apart wordD.sets ∧ wordD.Named := DbP.okB_spec word_ok
/-- The number of a rune's class. -/
def gW (r : Int) : Nat := wordD.get r
theorem gW_lt (r : Int) : gW r < 20 := get_lt wordOk.1 r
end Go.Proofs.YthlnfefpdmecaaaGreatDoor

/-
  props: Names, Set, Ranged, Of, walked.
-/
namespace Go.Proofs.YthlnfefpdmecaaaGreatDoor
open Go.RowKit Go.Maps
theorem full_small {d : DbP} (h : d.Ok) (ha : Apart d.sets) {k : Nat} {s : List (Int × Int)} (hk : d.full[k]? = some s) : s.length ≤ 1114112 := by
  have h1 := full_lenS h ha
  obtain ⟨hlt, e⟩ := List.getElem?_eq_some_iff.1 hk
  have hd : d.full = d.full.take k ++ s :: d.full.drop (k + 1) := by rw [← e, ← List.drop_eq_getElem_cons hlt, List.take_append_drop]
  rw [hd, lenS_append] at h1
  have : lenS (s :: d.full.drop (k + 1)) = s.length + lenS (d.full.drop (k + 1)) := rfl
  omega
theorem full_len' {d : DbP} (h : d.Ok) : d.full.length = d.names.length := full_len h
/-- The set of a number; none where there is none. -/
def DbP.setI (d : DbP) (k : Int) : List (Int × Int) := if 0 ≤ k then d.full.getD k.toNat [] else []
set_option maxRecDepth 100000 in
theorem wGet_nil (v : Value) (w : World) : Calls Tryz.prog 94 #[.pointer none, v] w fun e w' => e = .returned (.int .i64 0) ∧ w' = w := by
  go_enter Tryz.func94, Tryz.ntmps94
  go_wp2
  go_ret
  exact ⟨rfl, rfl⟩

/-- The classes of a text's runes. -/
def ofC (d : DbP) (s : ByteArray) : List Nat := (runesP s).map fun x => d.get (x.1 : Int)
def encN (x : Nat) : List Value := [.int .i64 (x : Int)]
theorem encN_ok (l : List Nat) : ∀ y ∈ l.map encN, y.length = 1 ∧ ∀ u ∈ y, u.oneCell' = true := by
  intro y hy; obtain ⟨r, _, rfl⟩ := List.mem_map.1 hy
  exact ⟨rfl, by simp [encN, Value.oneCell']⟩
/-- How far Of has come. -/
def OfCAt (d : DbP) (s : ByteArray) (f p : Nat) (o : List Nat) : Prop := (o ++ (runesGo s f p).map fun x => d.get (x.1 : Int)) = ofC d s ∧ s.size ≤ p + f ∧ p ≤ s.size
theorem ofCAt_first (d : DbP) (s : ByteArray) : OfCAt d s s.size 0 [] := ⟨by rw [List.nil_append]; rfl, by omega, by omega⟩
theorem ofCAt_add {d : DbP} {s : ByteArray} {f p R W : Nat} {o : List Nat} (h : OfCAt d s f p o) (hp : p < s.size) (hd : Utf8.decode s p = (R, W)) (hw : 1 ≤ W ∧ p + W ≤ s.size) : ∃ g, OfCAt d s g (p + W) (o ++ [d.get (R : Int)]) := by
  obtain ⟨g, rfl, hg⟩ := runesGo_step (s := s) (f := f) hp h.2.1
  rw [hd] at hg
  refine ⟨g, ?_, by have := h.2.1; omega, hw.2⟩
  rw [← h.1, hg]; simp
theorem ofCAt_end {d : DbP} {s : ByteArray} {f p : Nat} {o : List Nat} (h : OfCAt d s f p o) (hp : ¬ p < s.size) : o = ofC d s := by
  have := h.1
  rw [runesGo_end (by omega)] at this
  simpa using this

set_option maxRecDepth 100000 in
set_option maxHeartbeats 1000000 in
theorem wOf_any (p : Nat) (d : DbP) (s : ByteArray) (w : World) (h : DbAt w p d) (ho : d.Ok) (ha : Apart d.sets) (hs : s.size ≤ 1000000) :
    Calls Tryz.prog 101 #[.pointer (some ⟨p, 0, none⟩), .string s] w fun e w' => ∃ A n c, e = .returned (.slice A n c) ∧ Own w' w.heap.size 3 1 A n c ((ofC d s).map encN) ∧ Below w.heap.size w w' := by
  obtain ⟨i0, hi0, hz0, hz1, hz2⟩ := info_parts infoInt
  have HD := Lib.hid (And.intro h (And.intro ho ha))
  clear h ho ha
  go_enter Tryz.func101, Tryz.ntmps101
  go_wp2
  go_loopw [5] (fun v wr => ∃ (q f : Nat) (A1 : Option Addr) (n1 c1 : Nat) (o : List Nat), v = .slice A1 n1 c1 ∧ wr.heap[w.heap.size]? = some (.stringIter s q) ∧ Own wr (w.heap.size + 1) 3 1 A1 n1 c1 (o.map encN) ∧
      n1 ≤ q ∧ q ≤ s.size ∧ Hid (OfCAt d s f q o) ∧ Below w.heap.size w wr) (fun _ wr => s.size - wr.iterPos w.heap.size)
  case atStart => exact ⟨0, s.size, none, 0, 0, [], rfl, iter_new _ _ _, Own.nil_ _ _ _ _, by omega, by omega, ofCAt_first d s, below_iter (Below.refl _ _) (Nat.le_refl _) _ _⟩
  case round =>
    obtain ⟨q, f, A1, n1, c1, o, rfl, hit, ho, hn1, hps, HR, hb⟩ := hrel
    have hsz : w.heap.size < wr.heap.size := (Array.getElem?_eq_some_iff.1 hit).1
    have Hpos := Lib.hid (iterPos_of hit)
    by_cases hp : q < s.size
    · obtain ⟨⟨R, W⟩, HDc⟩ : ∃ d, Utf8.decode s q = d := ⟨_, rfl⟩
      have hd := dec_bd s q hp
      have hnx : ∀ ty, (Instr.next (.pointer (some ⟨w.heap.size, 0, none⟩)) true ty).run Tryz.prog wr = _ := fun ty => Lib.run_next_any_at wr w.heap.size s q ty hit hp
      have hit2 := Lib.iterAt_heap wr w.heap.size s q (q + (Utf8.decode s q).2) hit
      have hb2 := Lib.below_iterAt hb (k := w.heap.size) (Nat.le_refl _) s (q + (Utf8.decode s q).2)
      have ho2 := ho.iterAt (k := w.heap.size) (by omega) s (q + (Utf8.decode s q).2)
      have hsz2 : w.heap.size < (wr.iterAt w.heap.size s (q + (Utf8.decode s q).2)).heap.size := by rw [Lib.iterAt_size]; exact hsz
      rw [HDc] at hd hnx hit2 hb2 ho2 hsz2
      simp only at hd hnx hit2 hb2 ho2 hsz2
      obtain ⟨g, HA⟩ := ofCAt_add HR.out hp HDc (by omega)
      have HA := Lib.hid HA
      clear HR HDc
      generalize wr.iterAt w.heap.size s (q + W) = w2 at hnx hit2 hb2 ho2 hsz2
      have HG := Lib.hid (wGet_any p d R w2 (HD.out.1.below hb2) HD.out.2.1 HD.out.2.2)
      clear ho hb hit hsz
      go_wp2_with (first | (go_at_call 94; refine HG.out.mono ?_; rintro e w4 ⟨rfl, hb4⟩; have hit4 := (hb4.block _ hsz2).trans hit2; have ho4 := ho2.below hb4; have hbb := below_step hb2 hb4 hb2.size; have hsz4 := Nat.lt_of_lt_of_le hsz2 hb4.size; clear hit2 ho2 hb2) | (at_builtin; go_must (refine wpList_app rfl (.tmp 15) (.tmp 19) _ rfl (w.heap.size + 1) 3 i0 _ 1 8 Tryz.underlying35 hi0 hz0 hz1 hz2 rfl (by omega) A1 n1 c1 (o.map encN) rfl (ho4.alloc _) _ 1 1 [encN (d.get R)] rfl rfl (Rd.newAt (by simp) rfl) (encN_ok [d.get R]) (by unfold maxLen; omega) (by omega) (by simp; omega) ?_); intro A3 c3 w3 ho3 hg3 hA3; have hit3 := hg3.block w.heap.size (by simp; omega) (fun e => by cases A1 with | none => simp at e | some a => have := (ho4.lt a rfl).1; simp at e; omega); have hb3 := below_app (hbb.alloc (by omega) _) hg3 (by simp; omega) (fun a ha => by have := (ho4.lt a ha).1; omega); clear hg3))
      have hit5 : w3.heap[w.heap.size]? = some (.stringIter s (q + W)) := hit3.trans ((Below.heap_alloc _ _ _ hsz4).trans hit4)
      have Ho3 : Own w3 (w.heap.size + 1) 3 1 A3 (n1 + 1) c3 ((o ++ [d.get (R : Int)]).map encN) := by rw [List.map_append]; exact ho3
      clear hit3 ho3
      go_roundw
      case rel => exact ⟨q + W, g, A3, n1 + 1, c3, o ++ [d.get (R : Int)], rfl, hit5, Ho3, by omega, by omega, HA, hb3⟩
      case measure => rw [iterPos_of hit5, Hpos.out]; omega
    · have hnx : ∀ ty, (Instr.next (.pointer (some ⟨w.heap.size, 0, none⟩)) true ty).run Tryz.prog wr = _ := fun ty => Lib.run_next_end_at wr w.heap.size s q ty hit hp
      have HE := Lib.hid (ofCAt_end HR.out hp)
      go_wp2
      go_ret
      exact ⟨A1, n1, c1, rfl, by rw [← HE.out]; exact ho.more (by omega), hb⟩
set_option maxRecDepth 100000 in
theorem wOf_nil (v : Value) (w : World) : Calls Tryz.prog 101 #[.pointer none, v] w fun e w' => e = .returned (.slice none 0 0) ∧ w' = w := by
  go_enter Tryz.func101, Tryz.ntmps101
  go_wp2
  go_ret
  exact ⟨rfl, rfl⟩
end Go.Proofs.YthlnfefpdmecaaaGreatDoor

/-
  REGIONS: a region that draws its order, and whose last operation waits for all the others: the head may be walked as a region of its own. No program's walk.
-/
namespace Go.Proofs.YthlnfefpdmecaaaGreatDoor
open Go Go.RowKit

section
variable {P : Program} {Q : Exit → Act → World → Prop} {md : Region.Mode}
/-- The head's post: N at its end, else as it was. -/
def tailQ (N : Act → World → Prop) (Q : Exit → Act → World → Prop) : Exit → Act → World → Prop
  | .normal, a, w => N a w
  | e, a, w => Q e a w
theorem wp_tailQ {N : Act → World → Prop} {o : Oper} {a : Act} {w : World} {K : Act → World → Prop} : Oper.wp P o a w K (tailQ N Q) = Oper.wp P o a w K Q := by
  unfold Oper.wp
  generalize (execOp a.eval o).run P w = r
  cases r with
  | ok n w' => cases n <;> simp only [Oper.upon] <;> rfl
  | halt x w' => cases x <;> rfl
theorem lets_tailQ {N : Act → World → Prop} : LetsOut (tailQ N Q) = LetsOut Q := rfl
/-- Each operation but the last is waited for by a later one. -/
def lastSink (md : Region.Mode) (l : List Oper) : Bool :=
  (List.range (l.length - 1)).all fun i => (List.range l.length).any fun j => decide (i < j) && ((l[j]?).map fun o => o.after.any fun e => Region.binds md e && e.on == i).getD false
/-- Each operation waits for earlier ones alone; none is guarded. -/
def lastDown (md : Region.Mode) (l : List Oper) : Bool :=
  (List.range l.length).all fun j => ((l[j]?).map fun o => o.guard.isNone && o.after.all fun e => !Region.binds md e || decide (e.on < j)).getD true
theorem lastSink_spec {l : List Oper} (h : lastSink md l = true) {i : Nat} (hi : i < l.length - 1) : ∃ j o, i < j ∧ l[j]? = some o ∧ ∃ e ∈ o.after, Region.binds md e = true ∧ e.on = i := by
  unfold lastSink at h
  rw [List.all_eq_true] at h
  have h1 := h i (List.mem_range.2 hi)
  rw [List.any_eq_true] at h1
  obtain ⟨j, _, h2⟩ := h1
  rw [Bool.and_eq_true, decide_eq_true_eq] at h2
  obtain ⟨h3, h4⟩ := h2
  cases ho : l[j]? with
  | none => rw [ho] at h4; cases h4
  | some o =>
    rw [ho] at h4
    simp only [Option.map_some, Option.getD_some, Array.any_eq_true] at h4
    obtain ⟨k, hk, h5⟩ := h4
    simp only [Bool.and_eq_true, beq_iff_eq] at h5
    exact ⟨j, o, h3, ho, _, Array.getElem_mem hk, h5.1, h5.2⟩
theorem lastDown_spec {l : List Oper} (h : lastDown md l = true) {j : Nat} {o : Oper} (hj : l[j]? = some o) : o.guard = none ∧ ∀ e ∈ o.after, Region.binds md e = true → e.on < j := by
  unfold lastDown at h
  rw [List.all_eq_true] at h
  have h1 := h j (List.mem_range.2 (List.getElem?_eq_some_iff.1 hj).1)
  rw [hj] at h1
  simp only [Option.map_some, Option.getD_some, Bool.and_eq_true, Option.isNone_iff_eq_none] at h1
  refine ⟨h1.1, fun e he hb => ?_⟩
  have h2 := Array.all_eq_true_iff_forall_mem.1 h1.2 e he
  rw [hb] at h2
  simpa using h2
/-- The head's list and the whole one tell the same of the head. -/
structure SameHead (md : Region.Mode) (l : List Oper) (L L' : Array Bool) : Prop where
  size : L.size = l.length
  size' : L'.size = l.length - 1
  same : ∀ i, i < l.length - 1 → ∀ d, L.getD i d = L'.getD i d
  inv : ∀ (j : Nat) (o : Oper), l[j]? = some o → L.getD j false = true → ∀ e ∈ o.after, Region.binds md e = true → L.getD e.on false = true
  last : L.getD (l.length - 1) false = false
theorem getD_any {L : Array Bool} {i : Nat} (h : i < L.size) (d d' : Bool) : L.getD i d = L.getD i d' := by simp [h]
theorem head_get {l : List Oper} {i : Nat} (h : i < l.length - 1) : (l.dropLast.toArray)[i]? = l[i]? := by
  rw [List.getElem?_toArray, List.getElem?_dropLast, if_pos h]
theorem SameHead.ready {l : List Oper} {L L' : Array Bool} (h : SameHead md l L L') (hd : lastDown md l = true) {i : Nat} (hi : i < l.length - 1) : i ∈ Region.ready md l.toArray L ↔ i ∈ Region.ready md l.dropLast.toArray L' := by
  rw [mem_ready, mem_ready, head_get hi, List.getElem?_toArray, h.same i hi]
  constructor
  · rintro ⟨h0, o, ho, h1⟩
    exact ⟨h0, o, ho, fun e he hb => by rw [← h.same e.on (by have := (lastDown_spec hd ho).2 e he hb; omega)]; exact h1 e he hb⟩
  · rintro ⟨h0, o, ho, h1⟩
    exact ⟨h0, o, ho, fun e he hb => by rw [h.same e.on (by have := (lastDown_spec hd ho).2 e he hb; omega)]; exact h1 e he hb⟩
theorem SameHead.all {l : List Oper} {L L' : Array Bool} (h : SameHead md l L L') (hs : lastSink md l = true) (hr : l.length - 1 ∈ Region.ready md l.toArray L) : ∀ (k i : Nat), i < l.length - 1 → l.length - 1 ≤ i + k → L.getD i false = true
  | 0, i, hi, hk => by omega
  | k + 1, i, hi, hk => by
    obtain ⟨j, o, hij, ho, e, he, hb, rfl⟩ := lastSink_spec hs hi
    have hjl := (List.getElem?_eq_some_iff.1 ho).1
    by_cases hj : j = l.length - 1
    · obtain ⟨_, o', ho', hall⟩ := mem_ready.1 hr
      rw [List.getElem?_toArray, ← hj, ho] at ho'
      injection ho' with ho'; subst ho'
      exact hall e he hb
    · exact h.inv j o ho (h.all hs hr k j (by omega) (by omega)) e he hb
theorem SameHead.some_ready {l : List Oper} {L L' : Array Bool} (h : SameHead md l L L') (hd : lastDown md l = true) (hn : 0 < l.length) : Region.ready md l.toArray L ≠ [] := fun h0 => by
  have key : ∀ k, k < l.length → L.getD k false = true := by
    intro k
    induction k using Nat.strongRecOn with
    | ind k ih =>
      intro hk
      cases hq : L.getD k false with
      | true => rfl
      | false =>
        obtain ⟨o, ho⟩ : ∃ o, l[k]? = some o := ⟨_, List.getElem?_eq_getElem hk⟩
        have : k ∈ Region.ready md l.toArray L := mem_ready.2 ⟨by rw [getD_any (by rw [h.size]; exact hk) true false]; exact hq, o, by rw [List.getElem?_toArray]; exact ho, fun e he hb => by
          have := (lastDown_spec hd ho).2 e he hb
          exact ih e.on this (by omega)⟩
        rw [h0] at this; cases this
  have := key (l.length - 1) (by omega)
  rw [h.last] at this; cases this
theorem SameHead.step {l : List Oper} {L L' : Array Bool} (h : SameHead md l L L') {i : Nat} (hi : i < l.length - 1) (hr : i ∈ Region.ready md l.toArray L) : SameHead md l (L.setIfInBounds i true) (L'.setIfInBounds i true) := by
  refine ⟨by simpa using h.size, by simpa using h.size', fun k hk d => ?_, fun j o ho hj e he hb => ?_, by rw [getD_set_ne false (by omega)]; exact h.last⟩
  · by_cases e : i = k
    · subst e; simp [h.size, h.size', hk, show i < l.length by omega]
    · rw [getD_set_ne d e, getD_set_ne d e]; exact h.same k hk d
  · by_cases e1 : i = j
    · subst e1
      obtain ⟨_, o', ho', hall⟩ := mem_ready.1 hr
      rw [List.getElem?_toArray, ho] at ho'
      injection ho' with ho'; subst ho'
      exact getD_set_true (hall e he hb)
    · rw [getD_set_ne false e1] at hj
      exact getD_set_true (h.inv j o ho hj e he hb)
theorem wpOp_head {l : List Oper} (hd : lastDown md l = true) {N : Act → World → Prop} {i : Nat} (hi : i < l.length - 1) {K K' : Act → World → Prop} {a : Act} {w : World} (hK : ∀ a w, K a w → K' a w)
    (h : wpOp P l.dropLast.toArray (tailQ N Q) i K a w) : wpOp P l.toArray Q i K' a w := by
  refine wpOp_mono hK ?_
  obtain ⟨o, ho⟩ : ∃ o, l[i]? = some o := ⟨_, List.getElem?_eq_getElem (by omega)⟩
  have hg := (lastDown_spec hd ho).1
  unfold wpOp at h ⊢
  simp only [head_get hi, List.getElem?_toArray, ho, Region.wanted, hg, if_true, wp_tailQ, lets_tailQ] at h ⊢
  exact h
theorem last_step {l : List Oper} {L L' : Array Bool} (h : SameHead md l L L') (hs : lastSink md l = true) (hr : l.length - 1 ∈ Region.ready md l.toArray L) (hn : 0 < l.length) {fuel : Nat} {a : Act} {w : World}
    (H : wpOp P l.toArray Q (l.length - 1) (Q .normal) a w) : wpOp P l.toArray Q (l.length - 1) (wpAny P md l.toArray Q fuel (L.setIfInBounds (l.length - 1) true)) a w := by
  have h0 : Region.ready md l.toArray (L.setIfInBounds (l.length - 1) true) = [] := by
    refine List.eq_nil_iff_forall_not_mem.2 fun j hj => ?_
    obtain ⟨h1, o, ho, _⟩ := mem_ready.1 hj
    have hjl : j < l.length := by rw [List.getElem?_toArray] at ho; exact (List.getElem?_eq_some_iff.1 ho).1
    by_cases e : l.length - 1 = j
    · subst e; simp [h.size, hjl] at h1
    · rw [getD_set_ne true e, getD_any (by rw [h.size]; exact hjl) true false, h.all hs hr (l.length - 1) j (by omega) (by omega)] at h1
      cases h1
  refine wpOp_mono (fun a w hq => ?_) H
  cases fuel with
  | zero => exact ⟨h0, hq⟩
  | succ k => exact ⟨fun _ => hq, by rw [h0]; simp⟩
theorem wpAny_last {l : List Oper} (hs : lastSink md l = true) (hd : lastDown md l = true) (hn : 0 < l.length) :
    ∀ (fuel : Nat) (L L' : Array Bool) (a : Act) (w : World), SameHead md l L L' →
      wpAny P md l.dropLast.toArray (tailQ (wpOp P l.toArray Q (l.length - 1) (Q .normal)) Q) fuel L' a w → wpAny P md l.toArray Q (fuel + 1) L a w := by
  intro fuel
  induction fuel with
  | zero =>
    intro L L' a w hS H
    refine ⟨fun h0 => absurd h0 (hS.some_ready hd hn), fun i hi => ?_⟩
    obtain ⟨_, o, ho, _⟩ := mem_ready.1 hi
    have hil : i < l.length := by rw [List.getElem?_toArray] at ho; exact (List.getElem?_eq_some_iff.1 ho).1
    by_cases e : i < l.length - 1
    · have := (hS.ready hd e).1 hi
      rw [H.1] at this; cases this
    · obtain rfl : i = l.length - 1 := by omega
      exact last_step hS hs hi hn H.2
  | succ fuel ih =>
    intro L L' a w hS H
    refine ⟨fun h0 => absurd h0 (hS.some_ready hd hn), fun i hi => ?_⟩
    obtain ⟨_, o, ho, _⟩ := mem_ready.1 hi
    have hil : i < l.length := by rw [List.getElem?_toArray] at ho; exact (List.getElem?_eq_some_iff.1 ho).1
    by_cases e : i < l.length - 1
    · exact wpOp_head hd e (fun a w h => ih _ _ a w (hS.step e hi) h) (H.2 i ((hS.ready hd e).1 hi))
    · obtain rfl : i = l.length - 1 := by omega
      refine last_step hS hs hi hn (H.1 (List.eq_nil_iff_forall_not_mem.2 fun j hj => ?_))
      obtain ⟨h1, o, ho, _⟩ := mem_ready.1 hj
      have hjl : j < l.length - 1 := by rw [List.getElem?_toArray] at ho; have := (List.getElem?_eq_some_iff.1 ho).1; rwa [List.length_dropLast] at this
      rw [← hS.same j hjl true, getD_any (by rw [hS.size]; omega) true false, hS.all hs hi (l.length - 1) j hjl (by omega)] at h1
      cases h1
theorem tailQ_end {N : Act → World → Prop} {a : Act} {w : World} (h : N a w) : tailQ N Q .normal a w := h
/-- THE HEAD OF A REGION goes as a region that is held (S); then its last operation. -/
theorem wp_region_last {id : Nat} {l : List Oper} {a : Act} {w : World} {S : World → Prop} (n : Nat) (hn : l.length = n + 1) (hm : P.follows .mixedOrders = true) (hs : lastSink .any l = true) (hd : lastDown .any l = true) (hS : S w.drew)
    (h : S w.drew → wpAnyH P .any l.dropLast.toArray (tailQ (wpOp P l.toArray Q n (Q .normal)) Q) S n (Array.replicate n false) a w.drew) : (Code.region id l.toArray true).wp P Q a w := by
  obtain rfl : n = l.length - 1 := by omega
  have hH : SameHead .any l (Array.replicate l.length false) (Array.replicate (l.length - 1) false) := by
    refine ⟨by simp, by simp, fun i hi d => ?_, fun j o ho hj => ?_, ?_⟩
    · simp [hi, show i < l.length by omega]
    · have hl := (List.getElem?_eq_some_iff.1 ho).1
      simp [hl] at hj
    · simp [show l.length - 1 < l.length by omega]
  have := wpAny_last (Q := Q) hs hd (by omega) (l.length - 1) _ _ a w.drew hH (wpAny_of_held _ _ _ _ (h hS))
  rw [show l.length - 1 + 1 = l.toArray.size by simp; omega] at this
  refine wp_region_any hm ?_
  rw [show Array.replicate l.toArray.size false = Array.replicate l.length false by simp]
  exact this
end
end Go.Proofs.YthlnfefpdmecaaaGreatDoor

/-
  A text's runes laid in a struct: where each begins, its class: what memory holds while it is made. word.scan, walked.
-/
namespace Go.Proofs.YthlnfefpdmecaaaGreatDoor
open Go.RowKit

theorem Rd.atP {w : World} {A : Option Addr} {l : List Nat} {k : Nat} {x : Nat} (h : Rd w 1 A (l.map encN)) (hk : l[k]? = some x) : ∃ b off, A = some ⟨b, off, none⟩ ∧ w.cell? ⟨b, off + k, none⟩ = some (.int .i64 (x : Nat)) := by
  obtain ⟨b, off, rfl, hc⟩ := h (by intro e; cases l with | nil => simp at hk | cons _ _ => simp at e)
  have h0 := hc k 0 (encN x) (.int .i64 (x : Nat)) (by simp [hk]) rfl
  exact ⟨b, off, rfl, by simpa using h0⟩
/-- How far a scan has come. -/
def ScAt (g : Int → Nat) (s : ByteArray) (f q : Nat) (P : List Nat) (C : List Int) : Prop :=
  P ++ (runesGo s f q).map (·.2.1) = (runesP s).map (·.2.1) ∧ C ++ (runesGo s f q).map (fun x => (g x.1 : Int)) = wCls g s ∧ s.size ≤ q + f ∧ q ≤ s.size
theorem scAt_first (g : Int → Nat) (s : ByteArray) : ScAt g s s.size 0 [] [] := ⟨rfl, rfl, by omega, by omega⟩
theorem scAt_add {g : Int → Nat} {s : ByteArray} {f q R W : Nat} {P : List Nat} {C : List Int} (h : ScAt g s f q P C) (hp : q < s.size) (hd : Utf8.decode s q = (R, W)) (hw : 1 ≤ W ∧ q + W ≤ s.size) :
    ∃ f', ScAt g s f' (q + W) (P ++ [q]) (C ++ [(g R : Int)]) := by
  obtain ⟨f', rfl, hg⟩ := runesGo_step (s := s) (f := f) hp h.2.2.1
  rw [hd] at hg
  refine ⟨f', ?_, ?_, by have := h.2.2.1; omega, hw.2⟩
  · rw [← h.1, hg]; simp
  · rw [← h.2.1, hg]; simp
theorem scAt_end {g : Int → Nat} {s : ByteArray} {f q : Nat} {P : List Nat} {C : List Int} (h : ScAt g s f q P C) (hp : ¬ q < s.size) : P = (runesP s).map (·.2.1) ∧ C = wCls g s := by
  have h1 := h.1
  have h2 := h.2.1
  rw [runesGo_end (by omega)] at h1 h2
  exact ⟨by simpa using h1, by simpa using h2⟩

/-- A scan's own memory: the struct at bt, the iterator at bi, the two lists. -/
structure ScM (w : World) (t : TypeId) (B base bt bi : Nat) (s : ByteArray) (q : Nat) (tl : List Value) (A1 : Option Addr) (n1 c1 : Nat) (A2 : Option Addr) (n2 c2 : Nat) (P : List Nat) (C : List Int) : Prop where
  blk : Blk w bt t (Value.slice A1 n1 c1 :: Value.slice A2 n2 c2 :: tl).toArray
  it : w.heap[bi]? = some (.stringIter s q)
  o1 : Own w base 3 1 A1 n1 c1 (P.map encN)
  o2 : Own w base 3 1 A2 n2 c2 (C.map encZ)
  ne : ∀ a b, A1 = some a → A2 = some b → a.block ≠ b.block
  lt : B ≤ bt ∧ bt < base ∧ B ≤ bi ∧ bi < base ∧ bt ≠ bi ∧ base ≤ w.heap.size
section
variable {w w' : World} {t : TypeId} {B base bt bi : Nat} {s : ByteArray} {q : Nat} {tl : List Value} {A1 : Option Addr} {n1 c1 : Nat} {A2 : Option Addr} {n2 c2 : Nat} {P : List Nat} {C : List Int}
theorem ScM.below (h : ScM w t B base bt bi s q tl A1 n1 c1 A2 n2 c2 P C) (hb : Below w.heap.size w w') : ScM w' t B base bt bi s q tl A1 n1 c1 A2 n2 c2 P C :=
  ⟨h.blk.below hb, (hb.block _ (Array.getElem?_eq_some_iff.1 h.it).1).trans h.it, h.o1.below hb, h.o2.below hb, h.ne, ⟨h.lt.1, h.lt.2.1, h.lt.2.2.1, h.lt.2.2.2.1, h.lt.2.2.2.2.1, Nat.le_trans h.lt.2.2.2.2.2 hb.size⟩⟩
theorem ScM.iterAt (h : ScM w t B base bt bi s q tl A1 n1 c1 A2 n2 c2 P C) (k : Nat) : ScM (w.iterAt bi s k) t B base bt bi s k tl A1 n1 c1 A2 n2 c2 P C := by
  have hl := h.lt
  have hsame : ∀ b, b ≠ bi → (w.iterAt bi s k).heap[b]? = w.heap[b]? := fun b hne => Lib.iterAt_other w bi b s k hne
  refine ⟨(hsame bt hl.2.2.2.2.1).trans h.blk, Lib.iterAt_heap w bi s q k h.it, h.o1.keep fun a ha => hsame _ ?_, h.o2.keep fun a ha => hsame _ ?_, h.ne, ?_⟩
  · have := (h.o1.lt a ha).1; omega
  · have := (h.o2.lt a ha).1; omega
  · rw [Lib.iterAt_size]; exact hl
/-- The first list longer by one. -/
theorem ScM.more1 (h : ScM w t B base bt bi s q tl A1 n1 c1 A2 n2 c2 P C) {o : Obj} {x : Nat} {A3 : Option Addr} {c3 : Nat} {w3 : World} (ho : Own w3 base 3 1 A3 (n1 + 1) c3 ((P ++ [x]).map encN)) (hg : (w.alloc o).grownBy w3 (A1.map (·.block))) (hA : A3 = A1 ∨ A3 = some ⟨(w.alloc o).heap.size, 0, none⟩) :
    Blk w3 bt t (Value.slice A1 n1 c1 :: Value.slice A2 n2 c2 :: tl).toArray ∧ ScM (w3.setCell ⟨bt, 0, none⟩ (.slice A3 (n1 + 1) c3)) t B base bt bi s q tl A3 (n1 + 1) c3 A2 n2 c2 (P ++ [x]) C ∧ (∀ (V : World), Below B V w → Below B V (w3.setCell ⟨bt, 0, none⟩ (.slice A3 (n1 + 1) c3))) := by
  have hl := h.lt
  have hz : (w.alloc o).heap.size = w.heap.size + 1 := by simp
  have hne : ∀ b, b < base → some b ≠ A1.map (·.block) := fun b hb e => by
    cases A1 with
    | none => cases e
    | some a => have := (h.o1.lt a rfl).1; simp at e; omega
  have hsame : ∀ b, b < w.heap.size → some b ≠ A1.map (·.block) → w3.heap[b]? = w.heap[b]? := fun b hb e => (hg.block b (by omega) e).trans (Below.heap_alloc w o b hb)
  have hk : Blk w3 bt t (Value.slice A1 n1 c1 :: Value.slice A2 n2 c2 :: tl).toArray := (hsame bt h.blk.lt (hne bt hl.2.1)).trans h.blk
  have hset : ∀ b, b ≠ bt → (w3.setCell ⟨bt, 0, none⟩ (.slice A3 (n1 + 1) c3)).heap[b]? = w3.heap[b]? := fun b hb => Below.heap_setCell w3 ⟨bt, 0, none⟩ _ b hb
  refine ⟨hk, ⟨by have := hk.set_ 0 (.slice A3 (n1 + 1) c3); simpa using this, (hset bi (Ne.symm hl.2.2.2.2.1)).trans ((hsame bi (Array.getElem?_eq_some_iff.1 h.it).1 (hne bi hl.2.2.2.1)).trans h.it), ho.keep fun a ha => hset _ ?_, (h.o2.keep (w' := w3) fun a ha => hsame _ (h.o2.lt a ha).2 ?_).keep fun a ha => hset _ ?_, ?_, ?_⟩, fun V hV => ?_⟩
  · have := (ho.lt a ha).1; omega
  · intro e
    cases A1 with
    | none => cases e
    | some b => simp at e; exact h.ne b a rfl ha e.symm
  · have := (h.o2.lt a ha).1; omega
  · intro a b ha hb
    rcases hA with e | e
    · exact h.ne a b (by rw [← e]; exact ha) hb
    · rw [e] at ha; injection ha with ha; subst ha
      have := (h.o2.lt b hb).2
      simp only; omega
  · have := hg.size
    simp [World.setCell]; omega
  · refine (below_app (hV.alloc (by have := hl; omega) o) hg (by have := hl; omega) (fun a ha => by have := (h.o1.lt a ha).1; omega)).setCell (p := ⟨bt, 0, none⟩) hl.1 _
/-- The second list longer by one. -/
theorem ScM.more2 (h : ScM w t B base bt bi s q tl A1 n1 c1 A2 n2 c2 P C) {o : Obj} {x : Int} {A3 : Option Addr} {c3 : Nat} {w3 : World} (ho : Own w3 base 3 1 A3 (n2 + 1) c3 ((C ++ [x]).map encZ)) (hg : (w.alloc o).grownBy w3 (A2.map (·.block))) (hA : A3 = A2 ∨ A3 = some ⟨(w.alloc o).heap.size, 0, none⟩) :
    Blk w3 bt t (Value.slice A1 n1 c1 :: Value.slice A2 n2 c2 :: tl).toArray ∧ ScM (w3.setCell ⟨bt, 1, none⟩ (.slice A3 (n2 + 1) c3)) t B base bt bi s q tl A1 n1 c1 A3 (n2 + 1) c3 P (C ++ [x]) ∧ (∀ (V : World), Below B V w → Below B V (w3.setCell ⟨bt, 1, none⟩ (.slice A3 (n2 + 1) c3))) := by
  have hl := h.lt
  have hz : (w.alloc o).heap.size = w.heap.size + 1 := by simp
  have hne : ∀ b, b < base → some b ≠ A2.map (·.block) := fun b hb e => by
    cases A2 with
    | none => cases e
    | some a => have := (h.o2.lt a rfl).1; simp at e; omega
  have hsame : ∀ b, b < w.heap.size → some b ≠ A2.map (·.block) → w3.heap[b]? = w.heap[b]? := fun b hb e => (hg.block b (by omega) e).trans (Below.heap_alloc w o b hb)
  have hk : Blk w3 bt t (Value.slice A1 n1 c1 :: Value.slice A2 n2 c2 :: tl).toArray := (hsame bt h.blk.lt (hne bt hl.2.1)).trans h.blk
  have hset : ∀ b, b ≠ bt → (w3.setCell ⟨bt, 1, none⟩ (.slice A3 (n2 + 1) c3)).heap[b]? = w3.heap[b]? := fun b hb => Below.heap_setCell w3 ⟨bt, 1, none⟩ _ b hb
  refine ⟨hk, ⟨by have := hk.set_ 1 (.slice A3 (n2 + 1) c3); simpa using this, (hset bi (Ne.symm hl.2.2.2.2.1)).trans ((hsame bi (Array.getElem?_eq_some_iff.1 h.it).1 (hne bi hl.2.2.2.1)).trans h.it), (h.o1.keep (w' := w3) fun a ha => hsame _ (h.o1.lt a ha).2 ?_).keep fun a ha => hset _ ?_, ho.keep fun a ha => hset _ ?_, ?_, ?_⟩, fun V hV => ?_⟩
  · intro e
    cases A2 with
    | none => cases e
    | some b => simp at e; exact h.ne a b ha rfl e
  · have := (h.o1.lt a ha).1; omega
  · have := (ho.lt a ha).1; omega
  · intro a b ha hb
    rcases hA with e | e
    · exact h.ne a b ha (by rw [← e]; exact hb)
    · rw [e] at hb; injection hb with hb; subst hb
      have := (h.o1.lt a ha).2
      simp only; omega
  · have := hg.size
    simp [World.setCell]; omega
  · refine (below_app (hV.alloc (by have := hl; omega) o) hg (by have := hl; omega) (fun a ha => by have := (h.o2.lt a ha).1; omega)).setCell (p := ⟨bt, 1, none⟩) hl.1 _
end

theorem res_scan (w : World) (b : Nat) (tmps : Array Value) (ht : tmps.getD 2 undef = .pointer (some ⟨b, 0, none⟩)) {A1 A2 : Option Addr} {n1 c1 n2 c2 : Nat} {z : Int} (h : Blk w b 75 #[.slice A1 n1 c1, .slice A2 n2 c2, .int .i64 z]) :
    (results Tryz.f70 tmps).run Tryz.prog w = .ok (.agg #[.slice A1 n1 c1, .slice A2 n2 c2, .int .i64 z]) w := by
  have ht' : tmps[2]?.getD undef = .pointer (some ⟨b, 0, none⟩) := by simpa [Array.getD_eq_getD_getElem?] using ht
  have h0 := h.cell 0
  have h1 := h.cell 1
  have h2 := h.cell 2
  simp only [List.getElem?_toArray, List.getElem?_cons_zero, List.getElem?_cons_succ] at h0 h1 h2
  simp [results, Tryz.results70, go_sem, ht', h0, h1, h2]
set_option maxRecDepth 100000 in
set_option maxHeartbeats 8000000 in
theorem kscan_any (s : ByteArray) (w : World) (hE : Env w) (hs : s.size ≤ 1000000) :
    Calls Tryz.prog 70 #[.string s] w fun e w' => ∃ A1 n1 c1 A2 n2 c2, e = .returned (.agg #[.slice A1 n1 c1, .slice A2 n2 c2, .int .i64 s.size]) ∧ Own w' w.heap.size 3 1 A1 n1 c1 (((runesP s).map (·.2.1)).map encN) ∧
      Own w' w.heap.size 3 1 A2 n2 c2 ((wCls gW s).map encZ) ∧ Below w.heap.size w w' := by
  obtain ⟨i0, hi0, hz0, hz1, hz2⟩ := info_parts infoInt
  have hB0 : Below w.heap.size w (w.alloc (.cells #[.slice none 0 0, .slice none 0 0, .int .i64 0] 75)) := (Below.refl _ _).alloc (Nat.le_refl _) _
  have hR0 := Blk.new w 75 #[.slice none 0 0, .slice none 0 0, .int .i64 0]
  have hE0 := hE.below hB0
  go_enter Tryz.func70, Tryz.ntmps70
  generalize hT : ByteArray.mk _ = T
  have HN : newP T.data.toList = .ok wordD := by rw [← hT]; exact new_K (by kernel_rfl) (by kernel_rfl)
  have hTl : T.data.toList.length ≤ maxLen := by rw [← hT]; exact of_decide_eq_true (by kernel_rfl)
  clear hT
  have HC := wNew_any T.data.toList _ hE0 hTl
  rw [HN, bytes_is] at HC
  replace HC := Lib.hid HC
  clear HN hTl
  go_wp2_with fail
  refine HC.out.mono ?_
  rintro e w1 ⟨⟨p, rfl, hd⟩, hb1⟩
  clear HC
  have hR1 := hR0.below hb1
  have hB1 : Below w.heap.size w w1 := hB0.trans (hb1.mono (by simp))
  have hsz1 : w.heap.size < w1.heap.size := hR1.lt
  clear hR0 hB0 hE0 hb1
  have hM0 : ScM ((w1.alloc (.cells #[.slice none 0 0, .slice none 0 0, .int .i64 s.size] 75)).iter s 0) 75 w1.heap.size (w1.heap.size + 2) w1.heap.size (w1.heap.size + 1) s 0 [.int .i64 s.size] none 0 0 none 0 0 [] [] :=
    ⟨(Blk.new w1 _ _).alloc _, (by have := iter_new (w1.alloc (.cells #[.slice none 0 0, .slice none 0 0, .int .i64 s.size] 75)) s 0; simpa using this), Own.nil_ _ _ _ _, Own.nil_ _ _ _ _, fun _ _ h => (by cases h), (by unfold World.iter; simp)⟩
  have hB2 : Below w1.heap.size w1 ((w1.alloc (.cells #[.slice none 0 0, .slice none 0 0, .int .i64 s.size] 75)).iter s 0) := below_iter ((Below.refl _ _).alloc (Nat.le_refl _) _) (by simp) _ _
  have HA0 := Lib.hid (scAt_first gW s)
  have HD := Lib.hid hd
  clear hd hE
  go_wp2_with fail
  go_loopw [7] (fun _ wr => ∃ (q f : Nat) (A1 : Option Addr) (n1 c1 : Nat) (A2 : Option Addr) (n2 c2 : Nat) (P : List Nat) (C : List Int), ScM wr 75 w1.heap.size (w1.heap.size + 2) w1.heap.size (w1.heap.size + 1) s q [.int .i64 s.size] A1 n1 c1 A2 n2 c2 P C ∧
      n1 ≤ q ∧ n2 ≤ q ∧ q ≤ s.size ∧ Hid (ScAt gW s f q P C) ∧ Below w1.heap.size w1 wr) (fun _ wr => s.size - wr.iterPos (w1.heap.size + 1))
  case atStart => exact ⟨0, s.size, none, 0, 0, none, 0, 0, [], [], hM0, by omega, by omega, by omega, HA0, hB2⟩
  case round =>
    clear hM0 hB2 HA0
    obtain ⟨q, f, A1, n1, c1, A2, n2, c2, P, C, hM, hn1, hn2, hq, HA, hb⟩ := hrel
    have hit := hM.it
    have Hpos := Lib.hid (iterPos_of hit)
    by_cases hp : q < s.size
    · obtain ⟨⟨R, W⟩, HDc⟩ : ∃ d, Utf8.decode s q = d := ⟨_, rfl⟩
      have hd := dec_bd s q hp
      have hnx : ∀ ty, (Instr.next (.pointer (some ⟨w1.heap.size + 1, 0, none⟩)) true ty).run Tryz.prog wr = _ := fun ty => Lib.run_next_any_at wr (w1.heap.size + 1) s q ty hit hp
      have hM2 := hM.iterAt (q + (Utf8.decode s q).2)
      have hb2 := Lib.below_iterAt hb (k := w1.heap.size + 1) (by omega) s (q + (Utf8.decode s q).2)
      rw [HDc] at hd hnx hM2 hb2
      simp only at hd hnx hM2 hb2
      obtain ⟨g, HA'⟩ := scAt_add HA.out hp HDc (by omega)
      have HA' := Lib.hid HA'
      clear HA HDc hM hb hit
      generalize wr.iterAt (w1.heap.size + 1) s (q + W) = w2 at hnx hM2 hb2
      have k0 := hM2.blk.cell 0
      simp only [List.getElem?_toArray, List.getElem?_cons_zero] at k0
      have hsz2 := hM2.lt.2.2.2.2.2
      go_upto_region 7 with (at_builtin; go_must (refine wpList_app rfl (.tmp 24) (.tmp 26) _ rfl (w1.heap.size + 2) 3 i0 _ 1 8 Tryz.underlying35 hi0 hz0 hz1 hz2 rfl (by omega) A1 n1 c1 (P.map encN) rfl (hM2.o1.alloc _) _ 1 1 [encN q] rfl rfl (Rd.newAt (by simp) rfl) (encN_ok [q]) (by unfold maxLen; omega) (by omega) (by simp; omega) ?_); intro A3 c3 w3 ho3 hg3 hA3; have HM := hM2.more1 (x := q) (by rw [List.map_append]; exact ho3) hg3 hA3; have k3 := HM.1.cell 0; have f3 := HM.1.frozen 0; simp only [List.getElem?_toArray, List.getElem?_cons_zero] at k3)
      have hM5 := HM.2.1
      have hb5 := HM.2.2 _ hb2
      clear HM k3 f3 hg3 ho3 hA3 hM2 hb2 hnx k0
      generalize w3.setCell ⟨w1.heap.size, 0, none⟩ (.slice A3 (n1 + 1) c3) = w5 at hM5 hb5 ⊢
      have k5 := hM5.blk.cell 1
      simp only [List.getElem?_toArray, List.getElem?_cons_zero, List.getElem?_cons_succ] at k5
      have HG := Lib.hid (wGet_any p wordD R w5.drew ((HD.out.below hb5).drewN 1) wordOk.1 wordOk.2.1)
      have hsz5 := hM5.lt.2.2.2.2.2
      go_wp2_with fail
      refine wp_region_last (S := fun V => V.cell? ⟨w1.heap.size, 1, none⟩ = some (.slice A2 n2 c2)) 8 rfl (by kernel_rfl) (by kernel_rfl) (by kernel_rfl) k5 (fun hHeld => ?_)
      simp only [List.dropLast_cons_cons, List.dropLast_singleton]
      refine wpAnyH_take (i := 0) (v := ?_) rfl (by kernel_rfl) (by kernel_rfl) (by kernel_rfl) (fun _ _ _ h => h) (Or.inl ⟨by rfl, ?_⟩) (by assumption) ?_; rotate_left; focus ((intro w hSw; (try dsimp only at hSw); go_simp); try with_reducible rfl)
      (try simp only [Act.put, List.getElem_toArray, List.getElem_cons_zero, List.setIfInBounds_toArray, List.set_cons_zero, List.set_cons_succ])
      refine wpAnyH_take (i := 1) (v := ?_) rfl (by kernel_rfl) (by kernel_rfl) (by kernel_rfl) (fun _ _ _ h => h) (Or.inl ⟨by rfl, ?_⟩) (by assumption) ?_; rotate_left; focus ((intro w hSw; (try dsimp only at hSw); go_simp); try with_reducible rfl)
      (try simp only [Act.put, List.getElem_toArray, List.getElem_cons_succ, List.getElem_cons_zero, List.setIfInBounds_toArray, List.set_cons_zero, List.set_cons_succ])
      refine wpAnyH_take (i := 2) (v := ?_) rfl (by kernel_rfl) (by kernel_rfl) (by kernel_rfl) (fun _ _ _ h => h) (Or.inl ⟨by rfl, ?_⟩) (by assumption) ?_; rotate_left; focus ((intro w hSw; (try dsimp only at hSw); go_simp); try with_reducible rfl)
      (try simp only [Act.put, List.getElem_toArray, List.getElem_cons_succ, List.getElem_cons_zero, List.setIfInBounds_toArray, List.set_cons_zero, List.set_cons_succ])
      refine wpAnyH_take (i := 3) (v := ?_) rfl (by kernel_rfl) (by kernel_rfl) (by kernel_rfl) (fun _ _ _ h => h) (Or.inl ⟨by rfl, ?_⟩) (by assumption) ?_; rotate_left; focus ((intro w hSw; (try dsimp only at hSw); go_simp); try with_reducible rfl)
      (try simp only [Act.put, List.getElem_toArray, List.getElem_cons_succ, List.getElem_cons_zero, List.setIfInBounds_toArray, List.set_cons_zero, List.set_cons_succ])
      refine wpAnyH_ready (rs := [4]) (by kernel_rfl) (by simp) ?_
      refine AllReadyH.cons rfl (fun K hK => ?_) AllReadyH.nil
      go_simp
      refine HG.out.mono ?_
      rintro e wz ⟨rfl, hbz⟩
      have hMz := (hM5.below (w' := w5.drew) (Below.refl _ _).drew).below hbz
      have hbbz := below_step (below_drewN hb5 1) hbz hb5.size
      have kz := hMz.blk.cell 1
      simp only [List.getElem?_toArray, List.getElem?_cons_zero, List.getElem?_cons_succ] at kz
      have hszz := hMz.lt.2.2.2.2.2
      refine hK.out _ _ kz (fun hHeld => ?_)
      clear hK K
      refine wpAnyH_ready (rs := [5]) (by kernel_rfl) (by simp) ?_
      refine AllReadyH.cons rfl (fun K hK => ?_) AllReadyH.nil
      go_simp
      refine hK.out _ _ (cell_keep kz ((Below.refl _ _).alloc (Nat.le_refl _) _)) (fun hHeld => ?_)
      clear hK K
      refine wpAnyH_ready (rs := [6]) (by kernel_rfl) (by simp) ?_
      refine AllReadyH.cons rfl (fun K hK => ?_) AllReadyH.nil
      refine step_app rfl (.tmp 30) (.tmp 34) _ rfl (w1.heap.size + 2) 3 i0 _ 1 8 Tryz.underlying35 hi0 hz0 hz1 hz2 rfl (by omega) A2 n2 c2 (C.map encZ) rfl (hMz.o2.alloc _) _ 1 1 [encZ (gW R : Int)] rfl rfl (Rd.newAt (by simp) rfl) (encZ_ok [(gW R : Int)]) (by unfold maxLen; omega) (by omega) (by simp; omega) ?_
      intro A4 c4 w4 ho4 hg4 hA4
      have HM := hMz.more2 (x := (gW R : Int)) (by rw [List.map_append]; exact ho4) hg4 hA4
      have k4 := HM.1.cell 1
      have f4 := HM.1.frozen 1
      simp only [List.getElem?_toArray, List.getElem?_cons_zero, List.getElem?_cons_succ] at k4
      refine hK.out _ _ k4 (fun hHeld => ?_)
      clear hK K
      refine wpAnyH_take (i := 7) (v := ?_) rfl (by kernel_rfl) (by kernel_rfl) (by kernel_rfl) (fun _ _ _ h => h) (Or.inl ⟨by rfl, ?_⟩) (by assumption) ?_; rotate_left; focus ((intro w hSw; (try dsimp only at hSw); go_simp); try with_reducible rfl)
      (try simp only [Act.put, List.getElem_toArray, List.getElem_cons_succ, List.getElem_cons_zero, List.setIfInBounds_toArray, List.set_cons_zero, List.set_cons_succ])
      refine wpAnyH_done (by kernel_rfl) ?_ _
      refine tailQ_end (wpOp_step (i := 8) rfl (fun K hK => ?_))
      go_simp
      refine hK _ _ ?_
      clear hK K
      have hM6 := HM.2.1
      have hb6 := HM.2.2 _ hbbz
      go_wp2
      go_roundw
      case rel => exact ⟨q + W, g, _, _, _, _, _, _, P ++ [q], C ++ [(gW R : Int)], hM6, by omega, by omega, by omega, HA', hb6⟩
      case measure => rw [iterPos_of hM6.it, Hpos.out]; omega
    · have hnx : ∀ ty, (Instr.next (.pointer (some ⟨w1.heap.size + 1, 0, none⟩)) true ty).run Tryz.prog wr = _ := fun ty => Lib.run_next_end_at wr (w1.heap.size + 1) s q ty hit hp
      have HE := Lib.hid (scAt_end HA.out hp)
      have hRr := hR1.below hb
      have k0 := hM.blk.cell 0
      have k1 := hM.blk.cell 1
      have k2 := hM.blk.cell 2
      have r0 := hRr.cell 0
      have r1 := hRr.cell 1
      have r2 := hRr.cell 2
      have g0 := hRr.frozen 0
      have g1 := hRr.frozen 1
      have g2 := hRr.frozen 2
      simp only [List.getElem?_toArray, List.getElem?_cons_zero, List.getElem?_cons_succ] at k0 k1 k2 r0 r1 r2
      go_wp2
      have hl1 : ∀ a, A1 = some a → a.block ≠ w.heap.size := fun a ha => by have := (hM.o1.lt a ha).1; omega
      have hl2 : ∀ a, A2 = some a → a.block ≠ w.heap.size := fun a ha => by have := (hM.o2.lt a ha).1; omega
      have hBk := ((hRr.set_ 0 (.slice A1 n1 c1)).set_ 1 (.slice A2 n2 c2)).set_ 2 (.int .i64 s.size)
      have ho1 := ((((hM.o1.setCell (p := ⟨w.heap.size, 0, none⟩) hl1 (.slice A1 n1 c1)).setCell (p := ⟨w.heap.size, 1, none⟩) hl1 (.slice A2 n2 c2)).setCell (p := ⟨w.heap.size, 2, none⟩) hl1 (.int .i64 s.size)).more (b' := w.heap.size) (by omega))
      have ho2 := ((((hM.o2.setCell (p := ⟨w.heap.size, 0, none⟩) hl2 (.slice A1 n1 c1)).setCell (p := ⟨w.heap.size, 1, none⟩) hl2 (.slice A2 n2 c2)).setCell (p := ⟨w.heap.size, 2, none⟩) hl2 (.int .i64 s.size)).more (b' := w.heap.size) (by omega))
      have hbb := (((below_step hB1 hb hB1.size).setCell (p := ⟨w.heap.size, 0, none⟩) (Nat.le_refl _) (.slice A1 n1 c1)).setCell (p := ⟨w.heap.size, 1, none⟩) (Nat.le_refl _) (.slice A2 n2 c2)).setCell (p := ⟨w.heap.size, 2, none⟩) (Nat.le_refl _) (.int .i64 s.size)
      rw [HE.out.1] at ho1
      rw [HE.out.2] at ho2
      refine bodyPost_ret (res_scan _ w.heap.size _ rfl (by simpa using hBk)) rfl ?_
      exact ⟨_, _, _, _, _, _, rfl, ho1, ho2, hbb⟩
end Go.Proofs.YthlnfefpdmecaaaGreatDoor

/-
  slices.Contains of numbers, walked. Printed by gen_kkind.py.
-/
namespace Go.Proofs.YthlnfefpdmecaaaGreatDoor
open Go.RowKit

/-- None of the first j. -/
def NoneTo (p : Int → Bool) (l : List Int) (j : Nat) : Prop := ∀ k x, k < j → l[k]? = some x → p x = false
theorem noneTo_first (p : Int → Bool) (l : List Int) : NoneTo p l 0 := fun k x hk => by omega
theorem noneTo_next {p : Int → Bool} {l : List Int} {j : Nat} {x : Int} (h : NoneTo p l j) (hx : l[j]? = some x) (hp : p x = false) : NoneTo p l (j + 1) := fun k y hk hy => by
  rcases (by omega : k < j ∨ k = j) with h1 | rfl
  · exact h k y h1 hy
  · rw [hx] at hy; injection hy with hy; rw [← hy]; exact hp
theorem noneTo_end {p : Int → Bool} {l : List Int} {j : Nat} (h : NoneTo p l j) (hj : ¬ j < l.length) : l.any p = false := by
  rw [List.any_eq_false]
  intro x hx
  obtain ⟨k, hk, e⟩ := List.getElem_of_mem hx
  rw [h k x (by omega) (by rw [List.getElem?_eq_getElem hk, e])]
  simp
theorem any_here {p : Int → Bool} {l : List Int} {j : Nat} {x : Int} (hx : l[j]? = some x) (hp : p x = true) : l.any p = true := List.any_eq_true.2 ⟨x, List.mem_of_getElem? hx, hp⟩
theorem ge_nat (j : Nat) : decide (0 ≤ (j : Int)) = true := decide_eq_true (by omega)

set_option maxRecDepth 100000 in
set_option maxHeartbeats 2000000 in
theorem lIndexI_any (A : Option Addr) (n c : Nat) (l : List Int) (x : Int) (w : World) (hA : Rd w 1 A (l.map encZ)) (hl : l.length = n) (hn : n ≤ 4000000) :
    Calls Tryz.prog 117 #[.slice A n c, .int .i64 x] w fun e w' => ∃ v : Int, e = .returned (.int .i64 v) ∧ decide (0 ≤ v) = l.any (x == ·) ∧ w = w' := by
  have Hl := Lib.hid hl
  clear hl
  go_enter Tryz.func117, Tryz.ntmps117
  go_wp2
  go_loopw [8] (fun v wr => ∃ j : Nat, v = .int .i64 j ∧ j ≤ n ∧ Hid (NoneTo (x == ·) l j) ∧ wr = w) (fun v _ => n - (intOf v).toNat)
  case atStart => exact ⟨0, rfl, by omega, Lib.hid (noneTo_first _ l), rfl⟩
  case round =>
    obtain ⟨j, rfl, hj, HN, rfl⟩ := hrel
    by_cases hlt : j < n
    · obtain ⟨y, Hy⟩ : ∃ y, Hid (l[j]? = some y) := ⟨_, Lib.hid (List.getElem?_eq_getElem (by have := Hl.out; omega))⟩
      obtain ⟨b, off, rfl, hc⟩ := hA.atZ Hy.out
      obtain ⟨q, Hq⟩ : ∃ q, Hid ((x == ·) y = q) := ⟨_, Lib.hid rfl⟩
      cases q with
      | true =>
        have HV := Lib.hid (any_here Hy.out Hq.out)
        have he := Hq.out
        go_wp2
        go_ret
        exact ⟨j, rfl, by rw [HV.out]; exact ge_nat j, rfl⟩
      | false =>
        have HN' := Lib.hid (noneTo_next HN.out Hy.out Hq.out)
        have he := Hq.out
        go_wp2
        go_roundw
        case rel => exact ⟨j + 1, by go_num, by omega, HN', trivial⟩
        case measure => simp [intOf]; omega
    · have HV := Lib.hid (noneTo_end HN.out (by rw [Hl.out]; exact hlt))
      go_wp2
      go_ret
      exact ⟨-1, rfl, by rw [HV.out]; rfl, rfl⟩
set_option maxHeartbeats 1000000 in
theorem lContains_any (A : Option Addr) (n c : Nat) (l : List Int) (x : Int) (w : World) (hA : Rd w 1 A (l.map encZ)) (hl : l.length = n) (hn : n ≤ 4000000) :
    Calls Tryz.prog 75 #[.slice A n c, .int .i64 x] w fun e w' => e = .returned (.bool (l.any (x == ·))) ∧ w = w' := by
  have HI := Lib.hid (lIndexI_any A n c l x w hA hl hn)
  clear hA hl
  go_enter Tryz.func75, Tryz.ntmps75
  go_wp2_with fail
  refine HI.out.mono ?_
  rintro e w1 ⟨v, rfl, hv, rfl⟩
  have HV := Lib.hid hv
  clear hv HI
  go_wp2
  go_ret
  exact ⟨by rw [← HV.out]; rfl, rfl⟩
end Go.Proofs.YthlnfefpdmecaaaGreatDoor

/-
  word.Bounds, walked.
-/
namespace Go.Proofs.YthlnfefpdmecaaaGreatDoor
open Go.RowKit

theorem pick_next {c : List Int} {P : List Nat} {i a : Nat} (h : P[i]? = some a) : wPick c 0 (P.take (i + 1)) = wPick c 0 (P.take i) ++ (if i = 0 ∨ wCut c i = true then [a] else []) := by
  obtain ⟨h1, h2⟩ := List.getElem?_eq_some_iff.1 h
  rw [List.take_add_one, h, Option.toList_some, wPick_append, Nat.zero_add, List.length_take, Nat.min_eq_left (by omega), wPick, wPick, List.append_nil]

set_option maxRecDepth 100000 in
set_option maxHeartbeats 8000000 in
theorem kBounds_any (s : ByteArray) (w : World) (hE : Env w) (hs : s.size ≤ 1000000) :
    Calls Tryz.prog 22 #[.string s] w fun e w' => ∃ A n c, e = .returned (.slice A n c) ∧ Own w' w.heap.size 3 1 A n c ((wBounds gW s).map encN) ∧ Below w.heap.size w w' := by
  obtain ⟨i0, hi0, hz0, hz1, hz2⟩ := info_parts infoInt
  have HC := Lib.hid (kscan_any s w hE hs)
  obtain ⟨P, HP⟩ : ∃ P, Hid ((runesP s).map (·.2.1) = P) := ⟨_, Lib.hid rfl⟩
  obtain ⟨C, HCl⟩ : ∃ C, Hid (wCls gW s = C) := ⟨_, Lib.hid rfl⟩
  have HW : Hid (wBounds gW s = wPick C 0 P ++ (if s.size = 0 then [] else [s.size])) := Lib.hid (by rw [← HP.out, ← HCl.out]; rfl)
  have hPl : P.length = C.length := by rw [← HP.out, ← HCl.out, List.length_map, wCls_len]
  have hPz : P.length ≤ s.size := by rw [← HP.out, List.length_map]; exact runesP_len s
  clear hE
  go_enter Tryz.func22, Tryz.ntmps22
  go_wp2_with fail
  refine HC.out.mono ?_
  rintro e w1 ⟨A1, n1, c1, A2, n2, c2, rfl, o1, o2, hb1⟩
  clear HC
  rw [HP.out] at o1
  rw [HCl.out] at o2
  have hn1 : P.length = n1 := by have := o1.len; simpa using this
  have hn2 : C.length = n2 := by have := o2.len; simpa using this
  obtain rfl : n2 = n1 := by omega
  have Hn2 := Lib.hid hn2
  have Hn1 := Lib.hid hn1
  have hnz : n2 ≤ s.size := by omega
  clear hn1 hn2 hPl hPz
  have hK := Blk.new w1 75 #[.slice A1 n2 c1, .slice A2 n2 c2, .int .i64 s.size]
  have hb2 : Below w1.heap.size w1 (w1.alloc (.cells #[.slice A1 n2 c1, .slice A2 n2 c2, .int .i64 s.size] 75)) := (Below.refl _ _).alloc (Nat.le_refl _) _
  have o1 := o1.below hb2
  have o2 := o2.below hb2
  have hb3 := below_step hb1 hb2 hb1.size
  have k0 := hK.cell 0
  have k1 := hK.cell 1
  have k2 := hK.cell 2
  simp only [List.getElem?_toArray, List.getElem?_cons_zero, List.getElem?_cons_succ] at k0 k1 k2
  go_wp2_with fail
  have hk3 : w1.heap.size < (w1.alloc (.cells #[.slice A1 n2 c1, .slice A2 n2 c2, .int .i64 s.size] 75)).heap.size := by simp
  generalize (w1.alloc (.cells #[.slice A1 n2 c1, .slice A2 n2 c2, .int .i64 s.size] 75)) = w3 at hK o1 o2 hb3 k0 k1 k2 hk3 ⊢
  generalize w1.heap.size = bx at hK k0 k1 k2 hk3 ⊢
  have rd1 := o1.rd (by decide)
  have rd2 := o2.rd (by decide)
  have hsz3 := hb3.size
  clear o1 o2 hb1 hb2
  go_loopw [4, 12] (fun v u wr => ∃ (i : Nat) (A : Option Addr) (n c : Nat) (O : List Nat), v = .slice A n c ∧ u = .int .i64 i ∧ i ≤ n2 ∧ Own wr w3.heap.size 3 1 A n c (O.map encN) ∧ n ≤ i ∧ Hid (O = wPick C 0 (P.take i)) ∧ Below w3.heap.size w3 wr) (fun _ u _ => n2 - (intOf u).toNat)
  case atStart => exact ⟨0, none, 0, 0, [], rfl, rfl, by omega, Own.nil_ _ _ _ _, by omega, Lib.hid rfl, Below.refl _ _⟩
  case round =>
    obtain ⟨i, A, n, c, O, rfl, rfl, hi, ho, hni, HO, hb⟩ := hrel
    have hszr := hb.size
    by_cases hlt : i < n2
    · obtain ⟨a, Ha⟩ : ∃ a, Hid (P[i]? = some a) := ⟨_, Lib.hid (List.getElem?_eq_getElem (by have := Hn1.out; omega))⟩
      obtain ⟨b1, off1, rfl, hc1⟩ := rd1.atP Ha.out
      have hc1 := cell_keep hc1 hb
      have j0 := cell_keep k0 hb
      have j1 := cell_keep k1 hb
      have j2 := cell_keep k2 hb
      have HN := Lib.hid (pick_next (c := C) Ha.out)
      rw [← HO.out] at HN
      have HX : Hid (i = 0 ∨ ∃ j, i = j + 1) := Lib.hid (by cases i with | zero => exact .inl rfl | succ j => exact .inr ⟨j, rfl⟩)
      rcases HX.out with hi0 | ⟨j, rfl⟩
      · have HN' : Hid (O ++ [a] = wPick C 0 (P.take (i + 1))) := Lib.hid (by rw [HN.out, if_pos (.inl hi0)])
        have e0 : ((i : Int) == 0) = true := by rw [hi0]; rfl
        clear hi0
        go_wp2_with (at_builtin; go_must (refine wpList_app rfl (.tmp 24) (.tmp 26) _ rfl w3.heap.size 3 i0 _ 1 8 Tryz.underlying35 hi0 hz0 hz1 hz2 rfl (by omega) A n c (O.map encN) rfl (ho.alloc _) _ 1 1 [encN a] rfl rfl (Rd.newAt (by simp) rfl) (encN_ok [a]) (by unfold maxLen; omega) (by omega) (by simp; omega) ?_); intro A3 c3 w4 ho4 hg4 hA4; have hb4 := below_app (hb.alloc (by omega) _) hg4 (by simp; omega) (fun a ha => by have := (ho.lt a ha).1; omega); clear hg4 hA4)
        go_roundw
        case rel => exact ⟨i + 1, A3, n + 1, c3, O ++ [a], rfl, by go_num, by omega, by rw [List.map_append]; exact ho4, by omega, HN', hb4⟩
        case measure => simp [intOf]; omega
      · have HCu := Lib.hid (kcut_any (some ⟨b1, off1, none⟩) A2 n2 c1 n2 c2 s.size C (j + 1) wr (rd2.below hb) Hn2.out (by omega) (by omega) (by omega))
        cases hcu : wCut C (j + 1) with
        | true =>
          have HN' : Hid (O ++ [a] = wPick C 0 (P.take (j + 1 + 1))) := Lib.hid (by rw [HN.out, if_pos (.inr hcu)])
          rw [hcu] at HCu
          clear hcu
          go_wp2_with (first | (go_at_call 84; refine HCu.out.mono ?_; rintro e w5 ⟨rfl, hb5⟩; have hbb := below_step hb hb5 hb.size; have ho5 := ho.below hb5; have hs5 := hbb.size) | (at_builtin; go_must (refine wpList_app rfl (.tmp 24) (.tmp 26) _ rfl w3.heap.size 3 i0 _ 1 8 Tryz.underlying35 hi0 hz0 hz1 hz2 rfl (by omega) A n c (O.map encN) rfl (ho5.alloc _) _ 1 1 [encN a] rfl rfl (Rd.newAt (by simp) rfl) (encN_ok [a]) (by unfold maxLen; omega) (by omega) (by simp; omega) ?_); intro A3 c3 w4 ho4 hg4 hA4; have hb4 := below_app (hbb.alloc (by omega) _) hg4 (by simp; omega) (fun a ha => by have := (ho5.lt a ha).1; omega); clear hg4 hA4))
          go_roundw
          case rel => exact ⟨j + 1 + 1, A3, n + 1, c3, O ++ [a], rfl, by go_num, by omega, by rw [List.map_append]; exact ho4, by omega, HN', hb4⟩
          case measure => simp [intOf]; omega
        | false =>
          have HN' : Hid (O = wPick C 0 (P.take (j + 1 + 1))) := Lib.hid (by rw [HN.out, if_neg (by rw [hcu]; simp), List.append_nil])
          rw [hcu] at HCu
          clear hcu
          go_wp2_with (go_at_call 84; refine HCu.out.mono ?_; rintro e w5 ⟨rfl, hb5⟩; have hbb := below_step hb hb5 hb.size; have ho5 := ho.below hb5)
          go_roundw
          case rel => exact ⟨j + 1 + 1, A, n, c, O, rfl, by go_num, by omega, ho5, by omega, HN', hbb⟩
          case measure => simp [intOf]; omega
    · obtain rfl : i = n2 := by omega
      have hO : Hid (O = wPick C 0 P) := Lib.hid (by rw [HO.out, List.take_of_length_le (by have := Hn1.out; omega)])
      by_cases hz : 0 < s.size
      · have HV : Hid (O ++ [s.size] = wBounds gW s) := Lib.hid (by rw [HW.out, hO.out, if_neg (by omega)])
        go_wp2_with (at_builtin; go_must (refine wpList_app rfl (.tmp 32) (.tmp 35) _ rfl w3.heap.size 3 i0 _ 1 8 Tryz.underlying35 hi0 hz0 hz1 hz2 rfl (by omega) A n c (O.map encN) rfl (ho.alloc _) _ 1 1 [encN s.size] rfl rfl (Rd.newAt (by simp) rfl) (encN_ok [s.size]) (by unfold maxLen; omega) (by omega) (by simp; omega) ?_); intro A3 c3 w4 ho4 hg4 hA4; have hb4 := below_app (hb.alloc (by omega) _) hg4 (by simp; omega) (fun a ha => by have := (ho.lt a ha).1; omega); clear hg4 hA4)
        go_ret
        exact ⟨A3, n + 1, c3, rfl, by rw [← HV.out, List.map_append]; exact ho4.more hsz3, below_step hb3 hb4 hsz3⟩
      · have HV : Hid (O = wBounds gW s) := Lib.hid (by rw [HW.out, hO.out, if_pos (by omega), List.append_nil])
        go_wp2
        go_ret
        exact ⟨A, n, c, rfl, by rw [← HV.out]; exact ho.more hsz3, below_step hb3 hb hsz3⟩
end Go.Proofs.YthlnfefpdmecaaaGreatDoor

/-
  runes.Count, At, Index.
-/
namespace Go.Proofs.YthlnfefpdmecaaaGreatDoor
open Go.RowKit
end Go.Proofs.YthlnfefpdmecaaaGreatDoor

/-
  runes.Runs: the iterator over the runs of a text.
-/
namespace Go.Proofs.YthlnfefpdmecaaaGreatDoor
open Go.RowKit Go.Shelf
attribute [local go_sem] Oper.semAt_some

/-- What lies from block m on and below block n stands as it stood. -/
structure Mid (m n : Nat) (W W' : World) : Prop where
  size : W.heap.size ≤ W'.heap.size
  block : ∀ k, m ≤ k → k < n → W'.heap[k]? = W.heap[k]?
theorem Mid.refl (m n : Nat) (W : World) : Mid m n W W := ⟨Nat.le_refl _, fun _ _ _ => rfl⟩
theorem Mid.trans {m n : Nat} {A B C : World} (h : Mid m n A B) (k : Mid m n B C) : Mid m n A C := ⟨Nat.le_trans h.size k.size, fun i h1 h2 => (k.block i h1 h2).trans (h.block i h1 h2)⟩
theorem Mid.of_below {m n : Nat} {A B : World} (h : RowKit.Below A.heap.size A B) (hn : n ≤ A.heap.size) : Mid m n A B := ⟨h.size, fun i _ h2 => h.block i (by omega)⟩
theorem Mid.of_belowB {m n b : Nat} {A B : World} (h : RowKit.Below b A B) (hn : n ≤ b) : Mid m n A B := ⟨h.size, fun i _ h2 => h.block i (by omega)⟩
theorem Mid.setCell {m n : Nat} {A B : World} (h : Mid m n A B) {p : Addr} (hp : p.block < m ∨ n ≤ p.block) (u : Value) : Mid m n A (B.setCell p u) :=
  ⟨by simpa [World.setCell] using h.size, fun i h1 h2 => (Below.heap_setCell B p u i (by omega)).trans (h.block i h1 h2)⟩
theorem Mid.alloc {m n : Nat} {A B : World} (h : Mid m n A B) (hn : n ≤ B.heap.size) (o : Obj) : Mid m n A (B.alloc o) := h.trans (Mid.of_below ((RowKit.Below.refl _ _).alloc (Nat.le_refl _) o) hn)
theorem Mid.drewN {m n : Nat} {A B : World} (h : Mid m n A B) (q : Nat) : Mid m n A (B.drewN q) := ⟨h.size, h.block⟩
theorem Mid.cell {m n : Nat} {A B : World} (h : Mid m n A B) {p : Addr} {v : Value} (hv : A.cell? p = some v) (h1 : m ≤ p.block) (h2 : p.block < n) : B.cell? p = some v :=
  (World.cell?_of_block (h.block p.block h1 h2)).trans hv
theorem Rd.mid {m n s : Nat} {w w' : World} {A : Option Addr} {cs : List (List Value)} (h : Rd w s A cs) (hb : Mid m n w w') (hA : ∀ a, A = some a → m ≤ a.block ∧ a.block < n) : Rd w' s A cs :=
  h.keep fun b off i _ ha hp => hb.cell (p := ⟨b, i, none⟩) hp (hA ⟨b, off, none⟩ ha).1 (hA ⟨b, off, none⟩ ha).2
/-- What a round that goes on keeps for an iterator: what lies from m on and below n, and iterators. -/
def Kp (m n : Nat) (W W' : World) : Prop := Mid m n W W' ∧ KeepsWalks W W'
theorem Kp.trans {m n : Nat} {A B C : World} (h : Kp m n A B) (k : Kp m n B C) : Kp m n A C := ⟨h.1.trans k.1, h.2.trans k.2⟩
theorem Kp.put {m n : Nat} {w : World} (hn : n ≤ w.heap.size) (W : World) (l : Nat) (o o' : Obj) (hl : w.heap.size ≤ l) (h : W.heap[l]? = some o) (hc : o.isCells = false) (hw : o.isWalk = false) : Kp m n W (W.putObj l o') :=
  ⟨⟨by simp, fun k _ hk => World.putObj_heap_other (by omega)⟩, walksK_b W l o o' hl h hc hw⟩
theorem Kp.refl (m n : Nat) (W : World) : Kp m n W W := ⟨Mid.refl _ _ _, KeepsWalks.refl _⟩
theorem grown_of_below {w w' : World} (h : RowKit.Below w.heap.size w w') : w.grownBy w' none := ⟨h.os, h.tape, h.output, h.size, fun k hk _ => h.block k hk⟩
theorem grown_iterAt (w : World) (k : Nat) (s : ByteArray) (p : Nat) : w.grownBy (w.iterAt k s p) (some k) :=
  ⟨rfl, rfl, rfl, by rw [Lib.iterAt_size]; exact Nat.le_refl _, fun j _ hj => Lib.iterAt_other w k j s p (fun e => hj (by rw [e]))⟩
theorem abides_below {β : Type} {B : Nat} {J : β → World → Prop} (h : AbidesFrom B J) {x : β} {w w' : World} (hx : J x w) (hb : RowKit.Below w.heap.size w w') : J x w' := h x w w' none hx (grown_of_below hb) (fun _ e => by cases e)
theorem abides_iterAt {β : Type} {B : Nat} {J : β → World → Prop} (h : AbidesFrom B J) {x : β} {w : World} (hx : J x w) {k : Nat} {s : ByteArray} {p : Nat} (hk : w.heap[k]? = some (.stringIter s p)) (hB : B ≤ k) (p' : Nat) : J x (w.iterAt k s p') :=
  h x w _ (some k) hx (grown_iterAt w k s p') (fun r e => by cases e; exact ⟨hB, _, hk, rfl⟩)

def curV : Option Nat → Int
  | none => -1
  | some a => a
/-- How far the runs have come. -/
def RunsAt (s : ByteArray) (set : List (Int × Int)) (f p : Nat) (cur : Option Nat) (pre : List (Nat × Nat)) : Prop :=
  pre ++ runsGo (hasB set) s.size cur (runesGo s f p) = runsP s set ∧ s.size ≤ p + f ∧ p ≤ s.size ∧ ∀ a, cur = some a → a < p
section
variable {s : ByteArray} {set : List (Int × Int)} {f p : Nat} {cur : Option Nat} {pre : List (Nat × Nat)} {R W : Nat}
theorem runsAt_go (h : RunsAt s set f p cur pre) (hp : p < s.size) (hd : Utf8.decode s p = (R, W)) : ∃ g, f = g + 1 ∧ pre ++ runsGo (hasB set) s.size cur ((R, p, p + W) :: runesGo s g (p + W)) = runsP s set := by
  obtain ⟨g, rfl, hg⟩ := runesGo_step (s := s) (f := f) hp h.2.1
  rw [hd] at hg
  exact ⟨g, rfl, by rw [← h.1, hg]⟩
theorem runsAt_in (h : RunsAt s set f p none pre) (hp : p < s.size) (hd : Utf8.decode s p = (R, W)) (hw : 1 ≤ W ∧ p + W ≤ s.size) (hh : hasB set R = true) : ∃ g, RunsAt s set g (p + W) (some p) pre := by
  obtain ⟨g, rfl, hg⟩ := runsAt_go h hp hd
  rw [runsGo, if_pos hh] at hg
  exact ⟨g, hg, by have := h.2.1; omega, hw.2, fun a ha => by cases ha; omega⟩
theorem runsAt_out (h : RunsAt s set f p none pre) (hp : p < s.size) (hd : Utf8.decode s p = (R, W)) (hw : 1 ≤ W ∧ p + W ≤ s.size) (hh : hasB set R = false) : ∃ g, RunsAt s set g (p + W) none pre := by
  obtain ⟨g, rfl, hg⟩ := runsAt_go h hp hd
  rw [runsGo, if_neg (by rw [hh]; exact Bool.false_ne_true)] at hg
  exact ⟨g, hg, by have := h.2.1; omega, hw.2, fun a ha => by cases ha⟩
theorem runsAt_on {a : Nat} (h : RunsAt s set f p (some a) pre) (hp : p < s.size) (hd : Utf8.decode s p = (R, W)) (hw : 1 ≤ W ∧ p + W ≤ s.size) (hh : hasB set R = true) : ∃ g, RunsAt s set g (p + W) (some a) pre := by
  obtain ⟨g, rfl, hg⟩ := runsAt_go h hp hd
  rw [runsGo, if_pos hh] at hg
  exact ⟨g, hg, by have := h.2.1; omega, hw.2, fun b hb => by have := h.2.2.2 b hb; omega⟩
theorem runsAt_off {a : Nat} (h : RunsAt s set f p (some a) pre) (hp : p < s.size) (hd : Utf8.decode s p = (R, W)) (hw : 1 ≤ W ∧ p + W ≤ s.size) (hh : hasB set R = false) :
    (∃ g, RunsAt s set g (p + W) none (pre ++ [(a, p)])) ∧ pre ++ [(a, p)] <+: runsP s set := by
  obtain ⟨g, rfl, hg⟩ := runsAt_go h hp hd
  rw [runsGo, if_neg (by rw [hh]; exact Bool.false_ne_true)] at hg
  refine ⟨⟨g, by rw [← hg]; simp, by have := h.2.1; omega, hw.2, fun a ha => by cases ha⟩, ⟨_, by rw [← hg]; simp; rfl⟩⟩
theorem runsAt_end (h : RunsAt s set f p none pre) (hp : ¬ p < s.size) : pre = runsP s set := by
  have := h.1
  rw [runesGo_end (by omega), runsGo, List.append_nil] at this
  exact this
theorem runsAt_last {a : Nat} (h : RunsAt s set f p (some a) pre) (hp : ¬ p < s.size) : pre ++ [(a, s.size)] = runsP s set := by
  have := h.1
  rw [runesGo_end (by omega), runsGo] at this
  exact this
end
def encP (x : Nat × Nat) : Array Value := #[.int .i64 x.1, .int .i64 x.2]

/-- A piece of a text. -/
abbrev Span (s : ByteArray) := { x : Nat × Nat // x.1 < x.2 ∧ x.2 ≤ s.size }
theorem runsGo_bd {h : Int → Bool} {z : Nat} : ∀ (l : List (Nat × Nat × Nat)) (cur : Option Nat) (_ : ∀ x ∈ l, x.2.1 < x.2.2 ∧ x.2.2 ≤ z) (_ : ∀ a, cur = some a → a < z) (_ : ∀ a, cur = some a → ∀ x ∈ l, a < x.2.1) (_ : l.Pairwise fun x y => x.2.1 < y.2.1), ∀ y ∈ runsGo h z cur l, y.1 < y.2 ∧ y.2 ≤ z
  | [], none, _, _, _, _, y, hy => by simp [runsGo] at hy
  | [], some a, _, ha, _, _, y, hy => by
    simp [runsGo] at hy; subst hy; have := ha a rfl; simp only; omega
  | x :: l, none, hb, _, _, hp, y, hy => by
    have hb' : ∀ x ∈ l, x.2.1 < x.2.2 ∧ x.2.2 ≤ z := fun q hq => hb q (by simp [hq])
    have hx := hb x (by simp)
    have hp' := List.pairwise_cons.1 hp
    rw [runsGo] at hy
    split at hy
    · exact runsGo_bd l (some x.2.1) hb' (fun a ha => by cases ha; omega) (fun a ha q hq => by cases ha; exact hp'.1 q hq) hp'.2 y hy
    · exact runsGo_bd l none hb' (fun a ha => by cases ha) (fun a ha => by cases ha) hp'.2 y hy
  | x :: l, some a, hb, ha, hc, hp, y, hy => by
    have hb' : ∀ x ∈ l, x.2.1 < x.2.2 ∧ x.2.2 ≤ z := fun q hq => hb q (by simp [hq])
    have hx := hb x (by simp)
    have hp' := List.pairwise_cons.1 hp
    rw [runsGo] at hy
    split at hy
    · exact runsGo_bd l (some a) hb' ha (fun b hbb q hq => hc b hbb q (by simp [hq])) hp'.2 y hy
    · rcases List.mem_cons.1 hy with rfl | hy
      · have := hc a rfl x (by simp); simp only; omega
      · exact runsGo_bd l none hb' (fun a ha => by cases ha) (fun a ha => by cases ha) hp'.2 y hy
theorem runesGo_pair {s : ByteArray} : ∀ (f a : Nat), (runesGo s f a).Pairwise fun x y => x.2.1 < y.2.1
  | 0, a => by simp [runesGo]
  | f + 1, a => by
    rw [runesGo]
    split
    · rename_i hlt
      have hd := dec_bd s a hlt
      refine List.pairwise_cons.2 ⟨fun x hx => ?_, runesGo_pair f _⟩
      have := runesGo_bd f _ x hx
      simp only; omega
    · simp
theorem runsP_bd (s : ByteArray) (set : List (Int × Int)) : ∀ y ∈ runsP s set, y.1 < y.2 ∧ y.2 ≤ s.size :=
  runsGo_bd _ _ (fun x hx => by have := runesP_bd x hx; exact ⟨this.1, this.2.1⟩) (fun a ha => by cases ha) (fun a ha => by cases ha) (runesGo_pair _ _)
theorem runsGo_len {h : Int → Bool} {z : Nat} : ∀ (l : List (Nat × Nat × Nat)) (cur : Option Nat), (runsGo h z cur l).length ≤ l.length + 1
  | [], none => by simp [runsGo]
  | [], some a => by simp [runsGo]
  | x :: l, none => by
    rw [runsGo]; split
    · have := runsGo_len l (some x.2.1) (h := h) (z := z); simp only [List.length_cons]; omega
    · have := runsGo_len l none (h := h) (z := z); simp only [List.length_cons]; omega
  | x :: l, some a => by
    rw [runsGo]; split
    · have := runsGo_len l (some a) (h := h) (z := z); simp only [List.length_cons]; omega
    · have := runsGo_len l none (h := h) (z := z); simp only [List.length_cons]; omega
theorem runsP_len (s : ByteArray) (set : List (Int × Int)) : (runsP s set).length ≤ s.size + 1 := by
  have h1 := runsGo_len (h := hasB set) (z := s.size) (runesP s) none
  have h2 := runesP_len s
  unfold runsP; omega

/-- What the iterator's boxes hold. -/
def RunsIt (w : World) (s : ByteArray) (set : List (Int × Int)) (m bs bset : Nat) : Prop :=
  ∃ A na ca, w.cell? ⟨bs, 0, none⟩ = some (.string s) ∧ w.cell? ⟨bset, 0, none⟩ = some (.slice A na ca) ∧ Rd w 2 A (set.map encR) ∧ set.length = na ∧ na ≤ 4000000 ∧ m ≤ bs ∧ m ≤ bset ∧ ∀ a, A = some a → m ≤ a.block ∧ a.block < w.heap.size
theorem RunsIt.lt {w : World} {s : ByteArray} {set : List (Int × Int)} {m bs bset : Nat} (h : RunsIt w s set m bs bset) : m ≤ w.heap.size := by
  obtain ⟨A, na, ca, h1, _, _, _, _, h6, _⟩ := h
  have := cell_lt h1; simp at this; omega
theorem RunsIt.more {w : World} {s : ByteArray} {set : List (Int × Int)} {m m' bs bset : Nat} (h : RunsIt w s set m bs bset) (hm : m' ≤ m) : RunsIt w s set m' bs bset := by
  obtain ⟨A, na, ca, h1, h2, h3, h4, h5, h6, h7, h8⟩ := h
  exact ⟨A, na, ca, h1, h2, h3, h4, h5, by omega, by omega, fun a ha => ⟨by have := (h8 a ha).1; omega, (h8 a ha).2⟩⟩
theorem not_row {w : World} {row : Option Nat} {b : Nat} {o : Obj} (hb : w.heap[b]? = some o) (hc : o.isCells = true) (hr : ∀ r, row = some r → ∃ o : Obj, w.heap[r]? = some o ∧ o.isCells = false) : some b ≠ row := by
  rintro rfl
  obtain ⟨o', h1, h2⟩ := hr b rfl
  rw [hb] at h1; cases h1; rw [hc] at h2; cases h2
theorem Blk.kept {w w' : World} {row : Option Nat} {g : Nat} {t : TypeId} {cs : Array Value} (h : Blk w g t cs) (hg : w.grownBy w' row) (hr : ∀ r, row = some r → ∃ o : Obj, w.heap[r]? = some o ∧ o.isCells = false) : Blk w' g t cs := h.grown hg (not_row h rfl hr)
theorem RunsIt.mid {w w' : World} {s : ByteArray} {set : List (Int × Int)} {m bs bset : Nat} (h : RunsIt w s set m bs bset) (hb : Mid m w.heap.size w w') : RunsIt w' s set m bs bset := by
  obtain ⟨A, na, ca, h1, h2, h3, h4, h5, h6, h7, h8⟩ := h
  exact ⟨A, na, ca, hb.cell h1 h6 (cell_lt h1), hb.cell h2 h7 (cell_lt h2), h3.mid hb h8, h4, h5, h6, h7, fun a ha => ⟨(h8 a ha).1, Nat.lt_of_lt_of_le (h8 a ha).2 hb.size⟩⟩
theorem RunsIt.below {w w' : World} {s : ByteArray} {set : List (Int × Int)} {m bs bset : Nat} (h : RunsIt w s set m bs bset) (hb : RowKit.Below w.heap.size w w') : RunsIt w' s set m bs bset := h.mid (Mid.of_below hb (Nat.le_refl _))
end Go.Proofs.YthlnfefpdmecaaaGreatDoor

/-
  utf.Each: the iterator over the runes of a text.
-/
namespace Go.Proofs.YthlnfefpdmecaaaGreatDoor
open Go.RowKit Go.Shelf
attribute [local go_sem] Oper.semAt_some

/-- A rune's place and the rune, as utf.Each gives them. -/
def encU (x : Nat × Nat × Nat) : Array Value := #[.int .i64 (x.2.1 : Nat), .int .i32 (x.1 : Nat)]
/-- How far the runes have come. -/
def UAt (s : ByteArray) (f p : Nat) (pre : List (Nat × Nat × Nat)) : Prop := pre ++ runesGo s f p = runesP s ∧ s.size ≤ p + f ∧ p ≤ s.size
theorem uAt_first (s : ByteArray) : UAt s s.size 0 [] := ⟨rfl, by omega, by omega⟩
theorem uAt_next {s : ByteArray} {f p R W : Nat} {pre : List (Nat × Nat × Nat)} (h : UAt s f p pre) (hp : p < s.size) (hd : Utf8.decode s p = (R, W)) (hw : 1 ≤ W ∧ p + W ≤ s.size) : ∃ g, UAt s g (p + W) (pre ++ [(R, p, p + W)]) := by
  obtain ⟨g, rfl, hg⟩ := runesGo_step (s := s) (f := f) hp h.2.1
  rw [hd] at hg
  exact ⟨g, by rw [← h.1, hg]; simp, by have := h.2.1; omega, hw.2⟩
theorem uAt_pre {s : ByteArray} {f p : Nat} {pre : List (Nat × Nat × Nat)} (h : UAt s f p pre) : pre <+: runesP s := ⟨_, h.1⟩
theorem uAt_end {s : ByteArray} {f p : Nat} {pre : List (Nat × Nat × Nat)} (h : UAt s f p pre) (hp : ¬ p < s.size) : pre = runesP s := by
  have := h.1
  rw [runesGo_end (by omega), List.append_nil] at this
  exact this
set_option maxRecDepth 100000 in
theorem uEach_any (s : ByteArray) (w : World) : Calls Tryz.prog 92 #[.string s] w fun e w' => ∃ bs, e = .returned (.func (.func 132) #[] #[.pointer (some ⟨bs, 0, none⟩)]) ∧ w'.cell? ⟨bs, 0, none⟩ = some (.string s) ∧ RowKit.Below w.heap.size w w' := by
  have hmf : ∀ (fn : Fn) (first cap : Array Value) (w : World), (Instr.makeFunc fn first cap).run Tryz.prog w = .ok (.func fn first cap) w := fun _ _ _ _ => rfl
  go_enter Tryz.func92, Tryz.ntmps92
  go_wp2
  go_ret
  exact ⟨_, rfl, (Blk.new w 9 #[.string s]).cell 0, (RowKit.Below.refl _ _).alloc (Nat.le_refl _) _⟩
set_option maxRecDepth 100000 in
set_option maxHeartbeats 1000000 in
theorem uEach_stops (n : Nat) (hn : 1 ≤ n) (w : World) (s : ByteArray) (bs : Nat) (h : w.cell? ⟨bs, 0, none⟩ = some (.string s)) :
    SeqStopsK Fence.wide n Tryz.prog 132 #[.pointer (some ⟨bs, 0, none⟩)] encU KeepsWalks (fun ys => ys = runesP s) (fun pre => pre <+: runesP s) (runesP s).length w := by
  intro l J Jx W hW hJ _ hY h0
  have hc1 : W.cell? ⟨bs, 0, none⟩ = some (.string s) := cell_keep h hW
  refine callsIn_of_wp Tryz.func132 rfl trivial ?_ rfl
  simp only [Tryz.ntmps132, List.size_toArray, List.length_cons, List.length_nil, Nat.reduceAdd, Nat.reduceSub, Array.replicate_succ, Array.replicate_zero, List.push_toArray, List.append_toArray, List.nil_append, List.cons_append]
  gi_wp2
  gi_loopw [3] (fun _ wr => ∃ (f p : Nat) (pre : List (Nat × Nat × Nat)), Hid (UAt s f p pre) ∧ J pre wr ∧ wr.heap[W.heap.size]? = some (.stringIter s p))
    (fun _ wr => s.size - wr.iterPos W.heap.size)
  case atStart => exact ⟨s.size, 0, [], uAt_first s, abides_below hJ h0 (below_iter (RowKit.Below.refl _ _) (Nat.le_refl _) _ _), iter_new _ _ _⟩
  case round =>
    obtain ⟨f, p, pre, HA, hJs, hit⟩ := hrel
    have Hpos := Lib.hid (iterPos_of hit)
    by_cases hp : p < s.size
    · obtain ⟨⟨R, Wd⟩, hD0⟩ : ∃ d, Utf8.decode s p = d := ⟨_, rfl⟩
      have hd := dec_bd s p hp
      have hnx : ∀ ty, (Instr.next (.pointer (some ⟨W.heap.size, 0, none⟩)) true ty).run Tryz.prog wr = _ := fun ty => Lib.run_next_any_at wr W.heap.size s p ty hit hp
      have hit2 := Lib.iterAt_heap wr W.heap.size s p (p + (Utf8.decode s p).2) hit
      have hJ2 := abides_iterAt hJ hJs hit (Nat.le_refl _) (p + (Utf8.decode s p).2)
      rw [hD0] at hd hnx hit2 hJ2
      simp only at hd hnx hit2 hJ2
      obtain ⟨g, hg⟩ := uAt_next HA.out hp hD0 ⟨hd.1, hd.2.2.1⟩
      have Hg := Lib.hid hg
      have hlen : pre.length < (runesP s).length := by have := (uAt_pre hg).length_le; rw [List.length_append, List.length_singleton] at this; omega
      clear hD0 hg
      generalize wr.iterAt W.heap.size s (p + Wd) = wi at hnx hit2 hJ2
      clear hJs hit
      obtain ⟨fn, tmps, assign, body, hy, hR⟩ := hY pre (R, p, p + Wd) wi hJ2 hlen
      dsimp only [encU] at hy
      gi_wp2_with fail
      refine hR.mono ?_
      rintro e w4 (⟨rfl, hJ4, hk4⟩ | ⟨rfl, hJx4⟩)
      · have hit4 := hk4.same _ _ hit2 rfl
        gi_wp2_with fail
        go_roundw
        case rel => exact ⟨g, p + Wd, pre ++ [(R, p, p + Wd)], Hg, hJ4, hit4⟩
        case measure => rw [iterPos_of hit4, Hpos.out]; omega
      · gi_wp2
        refine bodyPost_ret (results_none rfl _ _ _) rfl ?_
        exact ⟨⟨_, rfl⟩, .inr ⟨_, uAt_pre Hg.out, hJx4⟩⟩
    · have hnx : ∀ ty, (Instr.next (.pointer (some ⟨W.heap.size, 0, none⟩)) true ty).run Tryz.prog wr = _ := fun ty => Lib.run_next_end_at wr W.heap.size s p ty hit hp
      have HE := Lib.hid (uAt_end HA.out hp)
      gi_wp2
      go_end0
      exact ⟨⟨_, rfl⟩, .inl ⟨_, HE.out, hJs⟩⟩
end Go.Proofs.YthlnfefpdmecaaaGreatDoor

/-
  Ranges over a function: the two laws of Derived.RangeFuncNested where the assign code only sets slots: the frame that the body begins with is said by what it does to the loop's frame.
-/
namespace Go.Proofs.YthlnfefpdmecaaaGreatDoor
open Go.RowKit

section
variable {P : Program} {F : Fence} {n : Nat}
theorem rngH {α : Type} {g : Operand} {ps : Array Tmp} {assign body : Code} {Q : Exit → Act → World → Prop} {a : Act} {w : World}
    (hro : F.round = none) (h1 : 1 ≤ n) {gf : Nat} {lb : Array Value} (hg : a.eval g = .func (.func gf) #[] lb) (hFg : F.fn gf) (eg : ∀ args w, (callFunc gf args).run P w = .ok (.enter gf args) w)
    {encs : α → Array Value} {Kp : World → World → Prop} {S Sp : List α → Prop} {N : Nat} {w0 : World} (hseq : SeqStopsK F (n - 1) P gf lb encs Kp S Sp N w0)
    (hKt : ∀ {A B C : World}, Kp A B → Kp B C → Kp A C) (hKb : ∀ (W : World) (l : Nat) (o o' : Obj), w.heap.size ≤ l → W.heap[l]? = some o → o.isCells = false → o.isWalk = false → Kp W (W.putObj l o')) (hb0 : Below w0.heap.size w0 w) (hps : ∀ x, (encs x).size = ps.size) (hKr : ∀ W, Kp W W)
    (I : List α → World → Prop) (Ix : Code → List α → World → Prop) (hI : OwnFrom w.heap.size I) (hIx : ∀ c, OwnFrom w.heap.size (Ix c)) (h0 : I [] w) (f : Array Value → α → Array Value)
    (hassign : ∀ (l : Nat) (x : α) (W : World) (K : Act → World → Prop), K { tmps := f a.tmps x, defers := [] } W →
      assign.wpIn (F.inRound l) (n - 1 - 1) P (Exit.then K (fun _ _ _ => False)) { tmps := (ps.zip (encs x)).foldl (fun t (p, v) => t.setIfInBounds p v) a.tmps, defers := [] } W)
    (hbody : ∀ (l : Nat) (pre : List α) (x : α) (W : World), w.heap.size ≤ l → (∃ r, W.heap[l]? = some (.loop r)) → I pre W → pre.length < N → body.wpIn (F.inRound l) (n - 1 - 1) P (ownPostG w.heap.size Kp I Ix (pre ++ [x]) W) { tmps := f a.tmps x, defers := [] } W)
    (hdone : ∀ (D : Nat) (xs : List α) (W : World), w.heap.size ≤ D → S xs → I xs W → W.heap[D]? = some (.deferred (some [])) → Q .normal { a with defers := { target := .collected D, args := #[] } :: a.defers } W)
    (hstop : ∀ (D : Nat) (c : Code) (pre : List α) (W : World), w.heap.size ≤ D → Sp pre → Ix c pre W → W.heap[D]? = some (.deferred (some [])) → c.wpIn F n P Q { a with defers := { target := .collected D, args := #[] } :: a.defers } W) :
    (Code.rangeFunc g ps assign body).wpIn F n P Q a w :=
  wpIn_rangeFunc_ownH hro h1 hg hFg eg hseq (fun h k => hKt h k) hKb hb0 hps I Ix hI hIx h0 (fun x a' _ => a' = { tmps := f a.tmps x, defers := [] }) (fun _ _ _ _ _ _ hs _ _ => hs)
    (fun l _ x W K hi hK => hassign l x W K (hK _ _ (KeepsFrom.refl _ _) (hKr W) hi rfl)) (fun l pre x a' W hl hr hi e => by subst e; exact hbody l pre x W hl hr hi) hdone hstop
theorem rngN {α : Type} {g : Operand} {ps : Array Tmp} {assign body : Code} {Q : Exit → Act → World → Prop} {a : Act} {w : World}
    {l₀ : Nat} {r₀ : Loop} (hro : F.round = some l₀) (hl₀ : w.heap[l₀]? = some (.loop r₀)) (h1 : 1 ≤ n) {gf : Nat} {lb : Array Value} (hg : a.eval g = .func (.func gf) #[] lb) (hFg : F.fn gf) (eg : ∀ args w, (callFunc gf args).run P w = .ok (.enter gf args) w)
    {encs : α → Array Value} {Kp : World → World → Prop} {S Sp : List α → Prop} {N : Nat} {w0 : World} (hseq : SeqStopsK F (n - 1) P gf lb encs Kp S Sp N w0)
    (hKt : ∀ {A B C : World}, Kp A B → Kp B C → Kp A C) (hKb : ∀ (W : World) (l : Nat) (o o' : Obj), w.heap.size ≤ l → W.heap[l]? = some o → o.isCells = false → o.isWalk = false → Kp W (W.putObj l o')) (hb0 : Below w0.heap.size w0 w) (hps : ∀ x, (encs x).size = ps.size) (hKr : ∀ W, Kp W W)
    (I : List α → World → Prop) (Ix : Code → List α → World → Prop) (hI : OwnFrom w.heap.size I) (hIx : ∀ c, OwnFrom w.heap.size (Ix c)) (h0 : I [] w) (f : Array Value → α → Array Value)
    (hassign : ∀ (l : Nat) (x : α) (W : World) (K : Act → World → Prop), K { tmps := f a.tmps x, defers := [] } W →
      assign.wpIn (F.inRound l) (n - 1 - 1) P (Exit.then K (fun _ _ _ => False)) { tmps := (ps.zip (encs x)).foldl (fun t (p, v) => t.setIfInBounds p v) a.tmps, defers := [] } W)
    (hbody : ∀ (l : Nat) (pre : List α) (x : α) (W : World), w.heap.size ≤ l → (∃ r, W.heap[l]? = some (.loop r)) → I pre W → pre.length < N → body.wpIn (F.inRound l) (n - 1 - 1) P (ownPostG w.heap.size Kp I Ix (pre ++ [x]) W) { tmps := f a.tmps x, defers := [] } W)
    (hdone : ∀ (xs : List α) (W : World), S xs → I xs W → Q .normal a W)
    (hstop : ∀ (c : Code) (pre : List α) (W : World), Sp pre → Ix c pre W → c.wpIn F n P Q a W) :
    (Code.rangeFunc g ps assign body).wpIn F n P Q a w :=
  wpIn_rangeFunc_ownN hro hl₀ h1 hg hFg eg hseq (fun h k => hKt h k) hKb hb0 hps I Ix hI hIx h0 (fun x a' _ => a' = { tmps := f a.tmps x, defers := [] }) (fun _ _ _ _ _ _ hs _ _ => hs)
    (fun l _ x W K hi hK => hassign l x W K (hK _ _ (KeepsFrom.refl _ _) (hKr W) hi rfl)) (fun l pre x a' W hl hr hi e => by subst e; exact hbody l pre x W hl hr hi) hdone hstop
end
end Go.Proofs.YthlnfefpdmecaaaGreatDoor

/-
  WORDS FOR MEMORY, STILL MORE: append onto a row of the call's own, inside a fence.
-/
namespace Go.Proofs.YthlnfefpdmecaaaGreatDoor
open Go.RowKit

section
variable {P : Program}
theorem run_app {w : World} (t ty : TypeId)
    (base : Nat) (e : TypeId) (i : TypeInfo) (z : Value) (size bytes : Nat) (ht : P.underlying t = some (.slice e)) (hi : P.info? e = some i) (hz : i.zero = some z)
    (hsize : i.size = size) (hby : i.bytes = bytes) (hzs : z.cells.size = size) (hsz : 0 < size)
    (A : Option Addr) (n c : Nat) (cs : List (List Value)) (hown : Own w base e size A n c cs)
    (A2 : Option Addr) (m c2 : Nat) (xs : List (List Value)) (hm : xs.length = m) (hr : Rd w size A2 xs) (h1 : ∀ y ∈ xs, y.length = size ∧ ∀ u ∈ y, u.oneCell' = true)
    (h63 : n + m ≤ maxLen) (hbytes : (n + m) * bytes ≤ 140737488355328) (hbase : base ≤ w.heap.size) :
    ∃ A' c' w', (Builtin.append_ #[t, t] ty #[.slice A n c, .slice A2 m c2]).run P w = .ok (.slice A' (n + m) c') w' ∧ Own w' base e size A' (n + m) c' (cs ++ xs) ∧ w.grownBy w' (A.map (·.block)) ∧ (A' = A ∨ A' = some ⟨w.heap.size, 0, none⟩) := by
  have hxl : ∀ y ∈ xs, y.length = size := fun y hy => (h1 y hy).1
  have hall : ∀ y ∈ cs ++ xs, y.length = size := fun y hy => by
    rcases List.mem_append.1 hy with hy | hy
    · exact hown.2.1 y hy
    · exact hxl y hy
  have hob : (Value.slice A n c).ownBlock = A.map (·.block) := by cases A <;> rfl
  have key : ∃ v' w', (Builtin.append_ #[t, t] ty #[.slice A n c, .slice A2 m c2]).run P w = .ok v' w' ∧ w'.ownsRow base e size v' (n + m) (cs.flatten ++ xs.flatten) ∧ w.grownBy w' (Value.slice A n c).ownBlock ∧
      (v'.ownBlock = (Value.slice A n c).ownBlock ∨ v'.ownBlock = some w.heap.size) := by
    cases A2 with
    | none =>
      have hnil : xs = [] := Classical.byContradiction fun hne => by obtain ⟨b, off, hb, _⟩ := hr hne; cases hb
      subst hnil
      subst hm
      refine ⟨.slice A n c, w, ?_, by simpa using hown.2.2, World.grownBy.refl w _, .inl rfl⟩
      rcases hown.2.2.2 with ⟨h0, rfl⟩ | ⟨g, cap, cur, h0, _, _, hnc, _⟩
      · rw [h0]; simp [Builtin.append_, run_underlying ht, sizeOf, typeInfo, hi, Builtin.lenOf, Builtin.firstCells]
      · injection h0 with hA _ hc
        subst hA; subst hc
        simp [Builtin.append_, run_underlying ht, sizeOf, typeInfo, hi, Builtin.lenOf, Builtin.firstCells, hnc, storeCells]
    | some ad =>
      have hcells : ∀ j u, xs.flatten[j]? = some u → w.cell? (ad.add j) = some u := by
        intro j u hu
        obtain ⟨k, r, y, rfl, h2, h3⟩ := flatten_at hxl hu
        have hne : xs ≠ [] := fun e => by subst e; simp at h2
        obtain ⟨b, off, hb, hc⟩ := hr hne
        injection hb with hb
        subst hb
        have := hc k r y u h2 h3
        unfold Addr.add
        split
        · rename_i h0; rw [show off + k * size + r = off by omega] at this; exact this
        · simpa [Nat.add_assoc] using this
      obtain ⟨v', w', hrun, h2, h3, _, h5⟩ := run_append_own_at (P := P) w base t ty e i z size bytes ht hi hz hsize hby hzs hsz (.slice A n c) n cs.flatten hown.2.2 ad m c2 xs.flatten
        (by rw [flatten_len hxl, hm]) hcells (fun u hu => by obtain ⟨y, hy, hu⟩ := List.mem_flatten.1 hu; exact (h1 y hy).2 u hu) h63 hbytes hbase
      exact ⟨v', w', hrun, h2, h3, h5⟩
  obtain ⟨v', w', hrun, h2, h3, h4⟩ := key
  rw [hob] at h3 h4
  have hv : ∃ A' c', v' = .slice A' (n + m) c' ∧ (A' = A ∨ A' = some ⟨w.heap.size, 0, none⟩) := by
    rcases h2.2 with ⟨rfl, h0⟩ | ⟨g, cap, cur, rfl, _⟩
    · refine ⟨none, 0, by rw [h0], .inl ?_⟩
      rcases hown.2.2.2 with ⟨h9, _⟩ | ⟨g', cap', cur', h9, _⟩
      · injection h9 with h9; exact h9.symm
      · injection h9 with h9
        rcases h4 with h4 | h4 <;> simp [Value.ownBlock, h9] at h4
    · refine ⟨_, _, rfl, ?_⟩
      rcases h4 with h4 | h4
      · left
        rcases hown.2.2.2 with ⟨h9, _⟩ | ⟨g', cap', cur', h9, _⟩
        · injection h9 with h9; subst h9; simp [Value.ownBlock] at h4
        · injection h9 with h9; subst h9; simp [Value.ownBlock] at h4; rw [h4]
      · right; simp [Value.ownBlock] at h4; rw [h4]
  obtain ⟨A', c', rfl, hA'⟩ := hv
  exact ⟨A', c', w', hrun, ⟨by rw [List.length_append, hown.1, hm], hall, by rw [List.flatten_append]; exact h2⟩, h3, hA'⟩

theorem wpListIn_app {F : Fence} {nF : Nat} {ops : Array Oper} {rest : List Oper} {o : Oper} {a : Act} {w : World} {Q : Exit → Act → World → Prop} (hgd : o.guard = none) (s x : Operand) (t : TypeId)
    (ho : o.op = .call { callee := .builtin .append, args := #[s, x], argTypes := #[t, t] })
    (base : Nat) (e : TypeId) (i : TypeInfo) (z : Value) (size bytes : Nat) (ht : P.underlying t = some (.slice e)) (hi : P.info? e = some i) (hz : i.zero = some z)
    (hsize : i.size = size) (hby : i.bytes = bytes) (hzs : z.cells.size = size) (hsz : 0 < size)
    (A : Option Addr) (n c : Nat) (cs : List (List Value)) (hs : a.eval s = .slice A n c) (hown : Own w base e size A n c cs)
    (A2 : Option Addr) (m c2 : Nat) (xs : List (List Value)) (hx : a.eval x = .slice A2 m c2) (hm : xs.length = m) (hr : Rd w size A2 xs) (h1 : ∀ y ∈ xs, y.length = size ∧ ∀ u ∈ y, u.oneCell' = true)
    (h63 : n + m ≤ maxLen) (hbytes : (n + m) * bytes ≤ 140737488355328) (hbase : base ≤ w.heap.size)
    (h : ∀ A' c' w', Own w' base e size A' (n + m) c' (cs ++ xs) → w.grownBy w' (A.map (·.block)) → (A' = A ∨ A' = some ⟨w.heap.size, 0, none⟩) → wpListIn F nF P ops Q rest (a.put o.dst (.slice A' (n + m) c')) w') : wpListIn F nF P ops Q (o :: rest) a w := by
  refine wpListIn_plain hgd fun K hK' => ?_
  obtain ⟨A', c', w', hrun, r1, r2, r3⟩ := run_app (P := P) t o.type base e i z size bytes ht hi hz hsize hby hzs hsz A n c cs hown A2 m c2 xs hm hr h1 h63 hbytes hbase
  unfold Oper.wpIn
  refine ⟨?_, ?_⟩
  · simp [Oper.about, ho, resolve, Target.leads, Sem.run_pure]
  · rw [Oper.semAt_plain F _ _ (by rw [ho]; intro c hc'; cases hc')]
    simp [execOp, ho, resolve, invoke, builtin, hs, hx, hrun, Result.andThen]
    exact hK' _ _ (h A' c' w' r1 r2 r3)
end
end Go.Proofs.YthlnfefpdmecaaaGreatDoor

