/-
  Several texts in one, in their build order: UtfP, WorP, Ka, Kb, PropsL, DbK, WorQ, UtfJ, WorR, Dw, We, Last, Li, RunD, RunT, Ue, Rng, AppIn, RngC, Ge, Each, Kt, GraP, GraQ, WorT, Wl, Rgn.
-/
import Derived.Lib.DecodeN
import Derived.Lib.RuneCountTail
import Derived.Deep.DeepMust
import Derived.Deep.RegionHeld3
import Derived.KernelRfl
import Derived.RangeFuncNested
import Derived.RangeFuncBound
import Derived.RangeFuncCalls
import Derived.RangeFuncLeaves
import Derived.Shelf.Abstract
import Derived.Shelf.RegionOpen
import Derived.OwnWalkIn
import Derived.TacticsInMore
import Derived.LoopNIn
import Derived.LoopIn
import Derived.RangeFuncKeeps
import Derived.CallsIn
import Derived.OrdersIn
import Derived.Test.YtlbfbkdcjdeagaaGreatDoorZ1a
import Derived.Test.YtlbfbkdcjdeagaaGreatDoorZ0a
import Derived.Test.YtlbfbkdcjdeagaaGreatDoorZWc
import Derived.Test.YtlbfbkdcjdeagaaGreatDoorZRefU
import Derived.Test.YtlbfbkdcjdeagaaGreatDoorZRunC
import Derived.Test.YtlbfbkdcjdeagaaGreatDoorZ1b
/-
  PLAIN: a text's runes lie one behind the other; a text's beginning has the runes that it had. No walk.
-/
namespace Go.Proofs.YtlbfbkdcjdeagaaGreatDoor

/-- Runes that lie one behind the other, from p to z. -/
def Contig : Nat → List (Nat × Nat × Nat) → Nat → Prop
  | p, [], z => p = z
  | p, x :: r, z => x.2.1 = p ∧ p < x.2.2 ∧ Contig x.2.2 r z
theorem runesGo_contig {s : ByteArray} : ∀ (f a : Nat), s.size ≤ a + f → a ≤ s.size → Contig a (runesGo s f a) s.size
  | 0, a, h, h2 => by simp only [runesGo, Contig]; omega
  | f + 1, a, h, h2 => by
    rw [runesGo]
    split
    · rename_i hlt
      have hd := dec_bd s a hlt
      exact ⟨rfl, by simp only; omega, runesGo_contig f _ (by simp only; omega) (by simp only; omega)⟩
    · show a = s.size; omega
theorem runesP_contig (s : ByteArray) : Contig 0 (runesP s) s.size := runesGo_contig _ _ (by omega) (by omega)
theorem runesGo_dec {s : ByteArray} : ∀ (f a : Nat), ∀ x ∈ runesGo s f a, Utf8.decode s x.2.1 = (x.1, x.2.2 - x.2.1)
  | 0, a, x, h => by simp [runesGo] at h
  | f + 1, a, x, h => by
    rw [runesGo] at h
    split at h
    · rcases List.mem_cons.1 h with rfl | h
      · simp only; rw [Nat.add_sub_cancel_left]
      · exact runesGo_dec f _ x h
    · simp at h

/- Lengths. -/
theorem extract_len (s : ByteArray) {a b : Nat} (h : b ≤ s.size) : (s.extract a b).data.toList.length = b - a := by
  rw [size_data, ByteArray.size_extract]; omega
theorem decN_same {n m b0 b1 b2 b3 c1 c2 c3 R W : Nat} (h : Lib.decodeN n b0 b1 b2 b3 = (R, W)) (hv : R ≠ 65533 ∨ W = 3) (hm : W ≤ m) (h1 : 2 ≤ W → c1 = b1) (h2 : 3 ≤ W → c2 = b2) (h3 : 4 ≤ W → c3 = b3) :
    Lib.decodeN m b0 c1 c2 c3 = (R, W) := by
  unfold Lib.decodeN at h
  split at h
  · rename_i g0
    injection h with hR hW
    subst hR; subst hW
    unfold Lib.decodeN; rw [if_pos g0]
  · rename_i g0
    split at h
    · rename_i g1
      split at h
      · rename_i g2
        injection h with hR hW
        subst hR; subst hW
        obtain rfl := h1 (by omega)
        unfold Lib.decodeN; rw [if_neg g0, if_pos ⟨g1.1, by omega, g1.2.2⟩, if_pos g2]
      · injection h with hR hW
        subst hR; subst hW
        rcases hv with hv | hv <;> omega
    · rename_i g1
      split at h
      · rename_i g2
        split at h
        · rename_i g3
          injection h with hR hW
          subst hR; subst hW
          obtain rfl := h1 (by omega)
          obtain rfl := h2 (by omega)
          unfold Lib.decodeN; rw [if_neg g0, if_neg (by omega), if_pos ⟨g2.1, ⟨by omega, g2.2.1.2⟩, by omega, g2.2.2.2⟩, if_pos g3]
        · injection h with hR hW
          subst hR; subst hW
          rcases hv with hv | hv <;> omega
      · rename_i g2
        split at h
        · rename_i g3
          split at h
          · rename_i g4
            injection h with hR hW
            subst hR; subst hW
            obtain rfl := h1 (by omega)
            obtain rfl := h2 (by omega)
            obtain rfl := h3 (by omega)
            unfold Lib.decodeN; rw [if_neg g0, if_neg (by omega), if_neg (by omega), if_pos ⟨g3.1, ⟨by omega, g3.2.1.2⟩, ⟨by omega, g3.2.2.1.2⟩, by omega, g3.2.2.2.2⟩, if_pos g4]
          · injection h with hR hW
            subst hR; subst hW
            rcases hv with hv | hv <;> omega
        · injection h with hR hW
          subst hR; subst hW
          rcases hv with hv | hv <;> omega
theorem dec_same {s t : ByteArray} {i j R W : Nat} (h : Utf8.decode s i = (R, W)) (h1 : 1 ≤ W) (hv : R ≠ 65533 ∨ W = 3) (ht : j + W ≤ t.size) (hg : ∀ k, k < W → t.get! (j + k) = s.get! (i + k)) : Utf8.decode t j = (R, W) := by
  rw [Lib.decode_at] at h ⊢
  have h0 := hg 0 (by omega)
  rw [Nat.add_zero, Nat.add_zero] at h0
  rw [h0]
  exact decN_same h hv (by omega) (fun h => by rw [hg 1 (by omega)]) (fun h => by rw [hg 2 (by omega)]) (fun h => by rw [hg 3 (by omega)])

/- A text's beginning. -/
theorem decN_bad {n b0 b1 b2 b3 R W : Nat} (h : Lib.decodeN n b0 b1 b2 b3 = (R, W)) (hv : ¬ (R ≠ 65533 ∨ W = 3)) : R = 65533 ∧ W = 1 := by
  have hR : R = 65533 := Classical.byContradiction fun k => hv (.inl k)
  have hW : W ≠ 3 := fun k => hv (.inr k)
  refine ⟨hR, ?_⟩
  unfold Lib.decodeN at h
  repeat' split at h
  all_goals (injection h with h1 h2; omega)
theorem decN_prefix {n m b0 b1 b2 b3 c1 c2 c3 R W : Nat} (h : Lib.decodeN n b0 b1 b2 b3 = (R, W)) (hmn : m ≤ n) (hm : W ≤ m) (h1 : 2 ≤ m → c1 = b1) (h2 : 3 ≤ m → c2 = b2) (h3 : 4 ≤ m → c3 = b3) (hb : ∀ R' W', Lib.decodeN m b0 c1 c2 c3 = (R', W') → W' ≤ m) :
    Lib.decodeN m b0 c1 c2 c3 = (R, W) := by
  by_cases hv : R ≠ 65533 ∨ W = 3
  · exact decN_same h hv hm (fun k => h1 (by omega)) (fun k => h2 (by omega)) (fun k => h3 (by omega))
  · obtain ⟨⟨R', W'⟩, hD⟩ : ∃ d, Lib.decodeN m b0 c1 c2 c3 = d := ⟨_, rfl⟩
    have hw := hb R' W' hD
    by_cases hv' : R' ≠ 65533 ∨ W' = 3
    · have := decN_same (m := n) (c1 := b1) (c2 := b2) (c3 := b3) hD hv' (by omega) (fun k => (h1 (by omega)).symm) (fun k => (h2 (by omega)).symm) (fun k => (h3 (by omega)).symm)
      rw [hD, ← h, this]
    · obtain ⟨rfl, rfl⟩ := decN_bad h hv
      obtain ⟨rfl, rfl⟩ := decN_bad hD hv'
      exact hD
theorem get_prefix (s : ByteArray) {z k : Nat} (hk : k < z) : (s.extract 0 z).get! k = s.get! k := by
  rw [← Lib.getD_get!', ← Lib.getD_get!', ByteArray.data_extract, Array.toList_extract, List.extract_eq_take_drop, List.getD_eq_getElem?_getD, List.getD_eq_getElem?_getD, List.drop_zero, Nat.sub_zero, List.getElem?_take_of_lt hk]
theorem dec_prefix (s : ByteArray) {z i R W : Nat} (hz : z ≤ s.size) (h : Utf8.decode s i = (R, W)) (hi : i < z) (hw : i + W ≤ z) : Utf8.decode (s.extract 0 z) i = (R, W) := by
  have hsz : (s.extract 0 z).size = z := by rw [ByteArray.size_extract]; omega
  have hb := dec_bd (s.extract 0 z) i (by omega)
  rw [Lib.decode_at] at h hb ⊢
  rw [hsz] at hb ⊢
  have h0 := get_prefix s (k := i) hi
  rw [h0] at hb ⊢
  refine decN_prefix h (by omega) (by omega) (fun k => by rw [get_prefix s (by omega)]) (fun k => by rw [get_prefix s (by omega)]) (fun k => by rw [get_prefix s (by omega)]) fun R' W' hD => ?_
  rw [hD] at hb
  simp only at hb; omega
/-- Runes up to a place where one begins. -/
theorem runesGo_prefix (s : ByteArray) {z : Nat} (hz : z ≤ s.size) : ∀ (f g a : Nat), s.size ≤ a + f → z ≤ a + g → a ≤ z → (a = z ∨ z = s.size ∨ ∃ x ∈ runesGo s f a, x.2.1 = z) → runesGo (s.extract 0 z) g a = (runesGo s f a).takeWhile fun x => decide (x.2.1 < z)
  | 0, g, a, hf, hg, ha, _ => by
    have hsz : (s.extract 0 z).size = z := by rw [ByteArray.size_extract]; omega
    rw [runesGo_end (by omega)]; rfl
  | f + 1, g, a, hf, hg, ha, hx => by
    have hsz : (s.extract 0 z).size = z := by rw [ByteArray.size_extract]; omega
    by_cases haz : a = z
    · subst haz
      rw [runesGo_end (by omega)]
      rw [runesGo]
      split
      · rw [List.takeWhile_cons, if_neg (by simp)]
      · rfl
    · have hlt : a < s.size := by omega
      have hd := dec_bd s a hlt
      obtain ⟨⟨R, W⟩, hD⟩ : ∃ d, Utf8.decode s a = d := ⟨_, rfl⟩
      rw [hD] at hd
      simp only at hd
      have hr : runesGo s (f + 1) a = (R, a, a + W) :: runesGo s f (a + W) := by rw [runesGo, if_pos hlt, hD]
      have hle : a + W ≤ z ∧ (a + W = z ∨ z = s.size ∨ ∃ x ∈ runesGo s f (a + W), x.2.1 = z) := by
        rcases hx with h | h | ⟨x, hm, h⟩
        · omega
        · exact ⟨by omega, .inr (.inl h)⟩
        · rw [hr] at hm
          rcases List.mem_cons.1 hm with rfl | hm
          · simp only at h; omega
          · have := runesGo_bd _ _ x hm
            exact ⟨by omega, .inr (.inr ⟨x, hm, h⟩)⟩
      obtain ⟨k, rfl, hk⟩ := runesGo_step (s := s.extract 0 z) (f := g) (a := a) (by omega) (by omega)
      rw [hk, hr, dec_prefix s hz hD (by omega) hle.1, List.takeWhile_cons, if_pos (by simp; omega)]
      simp only
      rw [runesGo_prefix s hz f k (a + W) (by omega) (by omega) hle.1 hle.2]
theorem runesP_prefix (s : ByteArray) {z : Nat} (hz : z ≤ s.size) (h : z = 0 ∨ z = s.size ∨ ∃ x ∈ runesP s, x.2.1 = z) : runesP (s.extract 0 z) = (runesP s).takeWhile fun x => decide (x.2.1 < z) := by
  have hsz : (s.extract 0 z).size = z := by rw [ByteArray.size_extract]; omega
  unfold runesP
  rw [hsz]
  exact runesGo_prefix s hz s.size z 0 (by omega) (by omega) (by omega) (by rcases h with h | h; exact .inl h.symm; exact .inr h)
end Go.Proofs.YtlbfbkdcjdeagaaGreatDoor

/-
  PLAIN: words: where a text may be cut by the classes of its runes; what holds together; what parts. No walk.
-/
namespace Go.Proofs.YtlbfbkdcjdeagaaGreatDoor

def wEnd (c : Int) : Bool := c == 3 || c == 1 || c == 2
def wHang (c : Int) : Bool := c == 4 || c == 6 || c == 5
def wLet (c : Int) : Bool := c == 10 || c == 9
def wInW (c : Int) : Bool := c == 14 || c == 13 || c == 11
def wInN (c : Int) : Bool := c == 15 || c == 13 || c == 11
def wJoin (c : Int) : Bool := wLet c || c == 16 || c == 8
/-- The number of the last rune ahead of one that hangs on nothing; -1: there is none. -/
def wBack (c : List Int) : Nat → Int
  | 0 => -1
  | i + 1 => if wHang (c.getD i 0) then wBack c i else i
def wOf (c : List Int) (i : Int) : Int := if i < 0 ∨ (c.length : Int) ≤ i then -1 else c.getD i.toNat 0
/-- The class of the first rune behind one that hangs on nothing. -/
def wOn (c : List Int) (i : Nat) : Int := (((c.drop (i + 1)).dropWhile wHang).head?).getD (-1)
def wRegGo (c : List Int) : Nat → Nat → Nat
  | 0, _ => 0
  | f + 1, i => if wOf c (wBack c i) = 7 then wRegGo c f (wBack c i).toNat + 1 else 0
def wReg (c : List Int) (i : Nat) : Nat := wRegGo c (i + 1) i
/-- Do letters and digits hold together there? -/
def wLetters (z a q n : Int) : Bool :=
  (wLet a && wLet q || wLet a && wInW q && wLet n || wLet z && wInW a && wLet q) ||
  (a == 9 && q == 11 || a == 9 && q == 12 && n == 9 || z == 9 && a == 12 && q == 9) ||
  (a == 16 && (q == 16 || wLet q) || wLet a && q == 16) ||
  (z == 16 && wInN a && q == 16 || a == 16 && wInN q && n == 16) ||
  (a == 8 && q == 8 || (wJoin a || a == 17) && q == 17 || a == 17 && wJoin q)
/-- May one cut ahead of a rune that is not the first? -/
def wCut (c : List Int) (i : Nat) : Bool :=
  let p := c.getD (i - 1) 0
  let q := c.getD i 0
  if p = 1 ∧ q = 2 then false
  else if wEnd p || wEnd q then true
  else if (p == 5 && q == 19) || (p == 18 && q == 18) || wHang q then false
  else
    let b := wBack c i
    if wLetters (wOf c (wBack c b.toNat)) (wOf c b) q (wOn c i) then false
    else !(q == 7) || wReg c i % 2 == 0
theorem wBack_lt (c : List Int) : ∀ i, wBack c i < (i : Int) ∧ -1 ≤ wBack c i
  | 0 => by simp [wBack]
  | i + 1 => by
    have ih := wBack_lt c i
    unfold wBack
    split <;> omega
theorem wBack_here {c : List Int} {i : Nat} (h : wHang (c.getD i 0) = false) : wBack c (i + 1) = i := by unfold wBack; rw [h]; rfl
theorem wOf_nat {c : List Int} {i : Nat} (h : i < c.length) : wOf c (i : Int) = c.getD i 0 := by unfold wOf; rw [if_neg (by omega), Int.toNat_natCast]

/-- Between which two classes no bound stands, whatever stands around. -/
def wGlue (a b : Int) : Bool := (wLet a && wLet b) || (a == 16 && b == 16) || (wLet a && b == 16) || (a == 16 && wLet b) || (a == 8 && b == 8) || (wHang b && !(wEnd a))
theorem wLet_iff (c : Int) : wLet c = true ↔ c = 10 ∨ c = 9 := by simp [wLet]
theorem wHang_iff (c : Int) : wHang c = true ↔ c = 4 ∨ c = 6 ∨ c = 5 := by simp [wHang, or_assoc]
theorem wEnd_iff (c : Int) : wEnd c = true ↔ c = 3 ∨ c = 1 ∨ c = 2 := by simp [wEnd, or_assoc]
theorem bool_false {b : Bool} (h : ¬ b = true) : b = false := by cases b; rfl; exact absurd rfl h
theorem wCut_glue {c : List Int} {i : Nat} (hi : i + 1 < c.length) (h : wGlue (c.getD i 0) (c.getD (i + 1) 0) = true) : wCut c (i + 1) = false := by
  unfold wCut
  rw [show i + 1 - 1 = i from rfl]
  generalize hp : c.getD i 0 = p at h
  generalize hq : c.getD (i + 1) 0 = q at h
  simp only
  by_cases h12 : p = 1 ∧ q = 2
  · rw [if_pos h12]
  · rw [if_neg h12]
    simp only [wGlue, Bool.or_eq_true, Bool.and_eq_true, wLet_iff, wHang_iff, beq_iff_eq, Bool.not_eq_true'] at h
    have hend : (wEnd p || wEnd q) = false := by
      refine bool_false fun k => ?_
      rw [Bool.or_eq_true, wEnd_iff, wEnd_iff] at k
      rcases h with h | h
      · omega
      · have := h.2
        have hpe : ¬ (p = 3 ∨ p = 1 ∨ p = 2) := fun e => by rw [(wEnd_iff p).2 e] at this; cases this
        omega
    rw [hend]
    simp only [Bool.false_eq_true, if_false]
    rcases h with h | h
    · have hh : wHang p = false := bool_false fun k => by rw [wHang_iff] at k; omega
      split
      · rfl
      · have hb : wBack c (i + 1) = i := wBack_here (by rw [hp]; exact hh)
        rw [hb, wOf_nat (by omega), hp]
        have : wLetters (wOf c (wBack c (i : Int).toNat)) p q (wOn c (i + 1)) = true := by
          generalize wOf c (wBack c (i : Int).toNat) = z
          generalize wOn c (i + 1) = n
          rcases h with (((⟨h1 | h1, h2 | h2⟩ | ⟨h1, h2⟩) | ⟨h1 | h1, h2⟩) | ⟨h1, h2 | h2⟩) | ⟨h1, h2⟩
          all_goals (rw [h1, h2]; simp [wLetters, wLet, wInW, wInN, wJoin])
        rw [this, if_pos rfl]
    · rw [if_pos]
      rw [Bool.or_eq_true]
      exact .inr ((wHang_iff q).2 h.1)
theorem wCut_end {c : List Int} {i : Nat} (h : wEnd (c.getD i 0) = true ∨ wEnd (c.getD (i + 1) 0) = true) : wCut c (i + 1) = !decide (c.getD i 0 = 1 ∧ c.getD (i + 1) 0 = 2) := by
  unfold wCut
  rw [show i + 1 - 1 = i from rfl]
  by_cases h12 : c.getD i 0 = 1 ∧ c.getD (i + 1) 0 = 2
  · rw [if_pos h12, decide_eq_true h12]; rfl
  · rw [if_neg h12, decide_eq_false h12, if_pos (by rcases h with h | h <;> rw [h] <;> simp)]; rfl
end Go.Proofs.YtlbfbkdcjdeagaaGreatDoor

/-
  word: the tests of a class, walked.
-/
namespace Go.Proofs.YtlbfbkdcjdeagaaGreatDoor
open Go.RowKit

set_option maxHeartbeats 400000 in
theorem klettered_any (c : Int) (w : World) : Calls Tryz.prog 55 #[.int .i64 c] w fun e w' => e = .returned (.bool (wLet c)) ∧ w = w' := by
  rcases (by omega : c = 10 ∨ c = 9 ∨ (c ≠ 10 ∧ c ≠ 9)) with rfl | rfl | ⟨h1, h2⟩
  iterate 2
    · go_enter Tryz.func55, Tryz.ntmps55
      go_wp2
      go_ret
      exact ⟨rfl, rfl⟩
  · have HV : Hid (wLet c = false) := Lib.hid (by simp [wLet, h1, h2])
    have e1 := beq_eq_false_iff_ne.2 h1
    have e2 := beq_eq_false_iff_ne.2 h2
    clear h1 h2
    go_enter Tryz.func55, Tryz.ntmps55
    go_wp2
    go_ret
    exact ⟨by rw [HV.out]; rfl, rfl⟩
set_option maxHeartbeats 400000 in
theorem kends_any (c : Int) (w : World) : Calls Tryz.prog 57 #[.int .i64 c] w fun e w' => e = .returned (.bool (wEnd c)) ∧ w = w' := by
  rcases (by omega : c = 3 ∨ c = 1 ∨ c = 2 ∨ (c ≠ 3 ∧ c ≠ 1 ∧ c ≠ 2)) with rfl | rfl | rfl | ⟨h1, h2, h3⟩
  iterate 3
    · go_enter Tryz.func57, Tryz.ntmps57
      go_wp2
      go_ret
      exact ⟨rfl, rfl⟩
  · have HV : Hid (wEnd c = false) := Lib.hid (by simp [wEnd, h1, h2, h3])
    have e1 := beq_eq_false_iff_ne.2 h1
    have e2 := beq_eq_false_iff_ne.2 h2
    have e3 := beq_eq_false_iff_ne.2 h3
    clear h1 h2 h3
    go_enter Tryz.func57, Tryz.ntmps57
    go_wp2
    go_ret
    exact ⟨by rw [HV.out]; rfl, rfl⟩
set_option maxHeartbeats 400000 in
theorem khangs_any (c : Int) (w : World) : Calls Tryz.prog 59 #[.int .i64 c] w fun e w' => e = .returned (.bool (wHang c)) ∧ w = w' := by
  rcases (by omega : c = 4 ∨ c = 6 ∨ c = 5 ∨ (c ≠ 4 ∧ c ≠ 6 ∧ c ≠ 5)) with rfl | rfl | rfl | ⟨h1, h2, h3⟩
  iterate 3
    · go_enter Tryz.func59, Tryz.ntmps59
      go_wp2
      go_ret
      exact ⟨rfl, rfl⟩
  · have HV : Hid (wHang c = false) := Lib.hid (by simp [wHang, h1, h2, h3])
    have e1 := beq_eq_false_iff_ne.2 h1
    have e2 := beq_eq_false_iff_ne.2 h2
    have e3 := beq_eq_false_iff_ne.2 h3
    clear h1 h2 h3
    go_enter Tryz.func59, Tryz.ntmps59
    go_wp2
    go_ret
    exact ⟨by rw [HV.out]; rfl, rfl⟩
set_option maxHeartbeats 400000 in
theorem kinWord_any (c : Int) (w : World) : Calls Tryz.prog 122 #[.int .i64 c] w fun e w' => e = .returned (.bool (wInW c)) ∧ w = w' := by
  rcases (by omega : c = 14 ∨ c = 13 ∨ c = 11 ∨ (c ≠ 14 ∧ c ≠ 13 ∧ c ≠ 11)) with rfl | rfl | rfl | ⟨h1, h2, h3⟩
  iterate 3
    · go_enter Tryz.func122, Tryz.ntmps122
      go_wp2
      go_ret
      exact ⟨rfl, rfl⟩
  · have HV : Hid (wInW c = false) := Lib.hid (by simp [wInW, h1, h2, h3])
    have e1 := beq_eq_false_iff_ne.2 h1
    have e2 := beq_eq_false_iff_ne.2 h2
    have e3 := beq_eq_false_iff_ne.2 h3
    clear h1 h2 h3
    go_enter Tryz.func122, Tryz.ntmps122
    go_wp2
    go_ret
    exact ⟨by rw [HV.out]; rfl, rfl⟩
set_option maxHeartbeats 400000 in
theorem kinNumber_any (c : Int) (w : World) : Calls Tryz.prog 123 #[.int .i64 c] w fun e w' => e = .returned (.bool (wInN c)) ∧ w = w' := by
  rcases (by omega : c = 15 ∨ c = 13 ∨ c = 11 ∨ (c ≠ 15 ∧ c ≠ 13 ∧ c ≠ 11)) with rfl | rfl | rfl | ⟨h1, h2, h3⟩
  iterate 3
    · go_enter Tryz.func123, Tryz.ntmps123
      go_wp2
      go_ret
      exact ⟨rfl, rfl⟩
  · have HV : Hid (wInN c = false) := Lib.hid (by simp [wInN, h1, h2, h3])
    have e1 := beq_eq_false_iff_ne.2 h1
    have e2 := beq_eq_false_iff_ne.2 h2
    have e3 := beq_eq_false_iff_ne.2 h3
    clear h1 h2 h3
    go_enter Tryz.func123, Tryz.ntmps123
    go_wp2
    go_ret
    exact ⟨by rw [HV.out]; rfl, rfl⟩
set_option maxHeartbeats 400000 in
theorem kjoined_any (c : Int) (w : World) : Calls Tryz.prog 124 #[.int .i64 c] w fun e w' => e = .returned (.bool (wJoin c)) ∧ w = w' := by
  rcases (by cases wLet c <;> simp : wLet c = true ∨ wLet c = false) with h | h
  · have HV : Hid (wJoin c = true) := Lib.hid (by simp [wJoin, h])
    go_enter Tryz.func124, Tryz.ntmps124
    go_wp2_with (go_at_call 55; refine (klettered_any _ _).mono ?_; rw [h]; rintro e w' ⟨rfl, rfl⟩)
    go_ret
    exact ⟨by rw [HV.out]; rfl, rfl⟩
  · rcases (by omega : c = 16 ∨ c = 8 ∨ (c ≠ 16 ∧ c ≠ 8)) with rfl | rfl | ⟨h1, h2⟩
    iterate 2
      · go_enter Tryz.func124, Tryz.ntmps124
        go_wp2_with (go_at_call 55; refine (klettered_any _ _).mono ?_; rintro e w' ⟨rfl, rfl⟩)
        go_ret
        exact ⟨rfl, rfl⟩
    · have HV : Hid (wJoin c = false) := Lib.hid (by simp [wJoin, h, h1, h2])
      have e1 := beq_eq_false_iff_ne.2 h1
      have e2 := beq_eq_false_iff_ne.2 h2
      clear h1 h2
      go_enter Tryz.func124, Tryz.ntmps124
      go_wp2_with (go_at_call 55; refine (klettered_any _ _).mono ?_; rw [h]; rintro e w' ⟨rfl, rfl⟩)
      go_ret
      exact ⟨by rw [HV.out]; rfl, rfl⟩
end Go.Proofs.YtlbfbkdcjdeagaaGreatDoor

/-
  word: what stands ahead of a rune and behind it, walked.
-/
namespace Go.Proofs.YtlbfbkdcjdeagaaGreatDoor
open Go.RowKit

def encZ (x : Int) : List Value := [.int .i64 x]
theorem encZ_ok (l : List Int) : ∀ y ∈ l.map encZ, y.length = 1 ∧ ∀ u ∈ y, u.oneCell' = true := by
  intro y hy; obtain ⟨r, _, rfl⟩ := List.mem_map.1 hy
  exact ⟨rfl, by simp [encZ, Value.oneCell']⟩
theorem Rd.atZ {w : World} {A : Option Addr} {l : List Int} {k : Nat} {x : Int} (h : Rd w 1 A (l.map encZ)) (hk : l[k]? = some x) : ∃ b off, A = some ⟨b, off, none⟩ ∧ w.cell? ⟨b, off + k, none⟩ = some (.int .i64 x) := by
  obtain ⟨b, off, rfl, hc⟩ := h (by intro e; cases l with | nil => simp at hk | cons _ _ => simp at e)
  have h0 := hc k 0 (encZ x) (.int .i64 x) (by simp [hk]) rfl
  exact ⟨b, off, rfl, by simpa using h0⟩
theorem getD_of {c : List Int} {k : Nat} {x : Int} (h : c[k]? = some x) : c.getD k 0 = x := by rw [List.getD_eq_getElem?_getD, h]; rfl

/-- The runes of a text, as the methods take them. -/
def txV (A : Option Addr) (na ca : Nat) (B : Option Addr) (n cb : Nat) (z : Int) : Array Value := #[.slice A na ca, .slice B n cb, .int .i64 z]

set_option maxRecDepth 100000 in
set_option maxHeartbeats 2000000 in
theorem kback_any (A B : Option Addr) (na ca n cb : Nat) (z : Int) (c : List Int) (i : Nat) (w : World) (hB : Rd w 1 B (c.map encZ)) (hl : c.length = n) (hi : i ≤ n) (hn : n ≤ 4000000) :
    Calls Tryz.prog 90 #[.agg #[.slice A na ca, .slice B n cb, .int .i64 z], .int .i64 i] w fun e w' => e = .returned (.int .i64 (wBack c i)) ∧ Below w.heap.size w w' := by
  have Hl := Lib.hid hl
  clear hl
  have hBz : Below w.heap.size w (w.alloc (.cells #[.slice A na ca, .slice B n cb, .int .i64 z] 64)) := (Below.refl _ _).alloc (Nat.le_refl _) _
  have hK := Blk.new w 64 #[.slice A na ca, .slice B n cb, .int .i64 z]
  have k1 := hK.cell 1
  simp only [List.getElem?_toArray, List.getElem?_cons_zero, List.getElem?_cons_succ] at k1
  go_enter Tryz.func90, Tryz.ntmps90
  go_wp2
  go_loopw [1] (fun v wr => ∃ (j : Nat) (x : Int), v = .int .i64 x ∧ x = (j : Int) - 1 ∧ j ≤ i ∧ Hid (wBack c j = wBack c i) ∧ wr = w.alloc (.cells #[.slice A na ca, .slice B n cb, .int .i64 z] 64)) (fun v _ => (intOf v + 1).toNat)
  case atStart => exact ⟨i, _, rfl, by go_num, Nat.le_refl _, Lib.hid rfl, rfl⟩
  case round =>
    obtain ⟨j, x, rfl, hx, hj, HW, rfl⟩ := hrel
    cases j with
    | zero =>
      have hx1 : x < 0 := by omega
      have hx0 : ¬ 0 ≤ x := by omega
      have HV : Hid (wBack c i = x) := Lib.hid (by rw [← HW.out, show x = -1 by omega]; rfl)
      clear hx
      go_wp2
      go_ret
      exact ⟨by rw [HV.out]; rfl, hBz⟩
    | succ j =>
      obtain rfl : x = (j : Int) := by omega
      clear hx
      obtain ⟨q, Hq⟩ : ∃ q, Hid (c[j]? = some q) := ⟨_, Lib.hid (List.getElem?_eq_getElem (by have := Hl.out; omega))⟩
      obtain ⟨b, off, rfl, hc⟩ := hB.atZ Hq.out
      have hc := cell_keep hc hBz
      cases hh : wHang q with
      | true =>
        have HW' : Hid (wBack c j = wBack c i) := Lib.hid (by rw [← HW.out, wBack, getD_of Hq.out, hh]; rfl)
        go_wp2_with (go_at_call 59; refine (khangs_any _ _).mono ?_; rw [hh]; rintro e w' ⟨rfl, rfl⟩)
        go_roundw
        case rel => exact ⟨j, _, rfl, by go_num, by omega, HW', trivial⟩
        case measure => simp [intOf]
      | false =>
        have HV : Hid (wBack c i = j) := Lib.hid (by rw [← HW.out]; exact wBack_here (by rw [getD_of Hq.out]; exact hh))
        go_wp2_with (go_at_call 59; refine (khangs_any _ _).mono ?_; rw [hh]; rintro e w' ⟨rfl, rfl⟩)
        go_ret
        exact ⟨by rw [HV.out]; rfl, hBz⟩

set_option maxRecDepth 100000 in
set_option maxHeartbeats 1000000 in
theorem kof_any (A B : Option Addr) (na ca n cb : Nat) (z : Int) (c : List Int) (i : Int) (w : World) (hB : Rd w 1 B (c.map encZ)) (hl : c.length = n) (_hn : n ≤ 4000000) (hi : -10 ≤ i ∧ i ≤ 4000000) :
    Calls Tryz.prog 92 #[.agg #[.slice A na ca, .slice B n cb, .int .i64 z], .int .i64 i] w fun e w' => e = .returned (.int .i64 (wOf c i)) ∧ Below w.heap.size w w' := by
  have hBz : Below w.heap.size w (w.alloc (.cells #[.slice A na ca, .slice B n cb, .int .i64 z] 64)) := (Below.refl _ _).alloc (Nat.le_refl _) _
  have hK := Blk.new w 64 #[.slice A na ca, .slice B n cb, .int .i64 z]
  have k1 := hK.cell 1
  simp only [List.getElem?_toArray, List.getElem?_cons_zero, List.getElem?_cons_succ] at k1
  rcases (by omega : i < 0 ∨ (¬ i < 0 ∧ (n : Int) ≤ i) ∨ (0 ≤ i ∧ i < n)) with h | ⟨h, h2⟩ | ⟨h, h2⟩
  · have HV : Hid (wOf c i = -1) := Lib.hid (by unfold wOf; rw [if_pos (.inl h)])
    go_enter Tryz.func92, Tryz.ntmps92
    go_wp2
    go_ret
    exact ⟨by rw [HV.out]; rfl, hBz⟩
  · have HV : Hid (wOf c i = -1) := Lib.hid (by unfold wOf; rw [if_pos (.inr (by omega))])
    clear hl
    go_enter Tryz.func92, Tryz.ntmps92
    go_wp2
    go_ret
    exact ⟨by rw [HV.out]; rfl, hBz⟩
  · obtain ⟨k, rfl⟩ : ∃ k : Nat, i = k := ⟨i.toNat, by omega⟩
    have hk : k < n := by omega
    obtain ⟨q, Hq⟩ : ∃ q, Hid (c[k]? = some q) := ⟨_, Lib.hid (List.getElem?_eq_getElem (by omega))⟩
    obtain ⟨b, off, rfl, hc⟩ := hB.atZ Hq.out
    have hc := cell_keep hc hBz
    have HV : Hid (wOf c (k : Int) = q) := Lib.hid (by rw [wOf_nat (by omega), getD_of Hq.out])
    clear hl
    go_enter Tryz.func92, Tryz.ntmps92
    go_wp2
    go_ret
    exact ⟨by rw [HV.out]; rfl, hBz⟩

theorem wOf_bd (c : List Int) (hc : ∀ x ∈ c, 0 ≤ x ∧ x ≤ 64) (i : Int) : -1 ≤ wOf c i ∧ wOf c i ≤ 64 := by
  unfold wOf
  split
  · omega
  · rename_i h
    have hk : i.toNat < c.length := by omega
    have := hc _ (List.getElem_mem hk)
    rw [List.getD_eq_getElem?_getD, List.getElem?_eq_getElem hk]
    simp only [Option.getD_some]
    omega

set_option maxRecDepth 100000 in
set_option maxHeartbeats 2000000 in
theorem kon_any (A B : Option Addr) (na ca n cb : Nat) (z : Int) (c : List Int) (i : Nat) (w : World) (hB : Rd w 1 B (c.map encZ)) (hl : c.length = n) (hi : i < n) (hn : n ≤ 3000000) :
    Calls Tryz.prog 93 #[.agg #[.slice A na ca, .slice B n cb, .int .i64 z], .int .i64 i] w fun e w' => e = .returned (.int .i64 (wOn c i)) ∧ Below w.heap.size w w' := by
  have Hl := Lib.hid hl
  clear hl
  have hBz : Below w.heap.size w (w.alloc (.cells #[.slice A na ca, .slice B n cb, .int .i64 z] 64)) := (Below.refl _ _).alloc (Nat.le_refl _) _
  have hK := Blk.new w 64 #[.slice A na ca, .slice B n cb, .int .i64 z]
  have k0 := hK.cell 0
  have k1 := hK.cell 1
  have k2 := hK.cell 2
  simp only [List.getElem?_toArray, List.getElem?_cons_zero, List.getElem?_cons_succ] at k0 k1 k2
  have HO := Lib.hid (fun (j : Nat) (hj : j ≤ n) => kof_any A B na ca n cb z c j _ (hB.below hBz) Hl.out (by omega) (by omega))
  go_enter Tryz.func93, Tryz.ntmps93
  go_wp2
  go_loopw [1] (fun v wr => ∃ j : Nat, v = .int .i64 j ∧ j ≤ n ∧ Hid (((c.drop j).dropWhile wHang).head?.getD (-1) = wOn c i) ∧ wr = w.alloc (.cells #[.slice A na ca, .slice B n cb, .int .i64 z] 64)) (fun v _ => n - (intOf v).toNat)
  case atStart => exact ⟨i + 1, by go_num, by omega, Lib.hid rfl, rfl⟩
  case round =>
    obtain ⟨j, rfl, hj, HW, rfl⟩ := hrel
    by_cases hlt : j < n
    · obtain ⟨q, Hq⟩ : ∃ q, Hid (c[j]? = some q) := ⟨_, Lib.hid (List.getElem?_eq_getElem (by have := Hl.out; omega))⟩
      have hd : Hid (c.drop j = q :: c.drop (j + 1)) := Lib.hid (by
        obtain ⟨h1, h2⟩ := List.getElem?_eq_some_iff.1 Hq.out
        rw [List.drop_eq_getElem_cons h1, h2])
      obtain ⟨b, off, e0, hc⟩ := hB.atZ Hq.out
      have hc := cell_keep hc hBz
      cases hh : wHang q with
      | true =>
        have HW' : Hid (((c.drop (j + 1)).dropWhile wHang).head?.getD (-1) = wOn c i) := Lib.hid (by rw [← HW.out, hd.out, List.dropWhile_cons, hh]; rfl)
        subst e0
        go_wp2_with (go_at_call 59; refine (khangs_any _ _).mono ?_; rw [hh]; rintro e w' ⟨rfl, rfl⟩)
        go_roundw
        case rel => exact ⟨j + 1, by go_num, by omega, HW', trivial⟩
        case measure => simp [intOf]; omega
      | false =>
        have HV : Hid (wOf c (j : Int) = wOn c i) := Lib.hid (by rw [← HW.out, hd.out, List.dropWhile_cons, hh, wOf_nat (by have := Hl.out; omega), getD_of Hq.out]; rfl)
        have HOj := Lib.hid (HO.out j hj)
        subst e0
        clear HO
        go_wp2_with (first | (go_at_call 59; refine (khangs_any _ _).mono ?_; rw [hh]; rintro e w' ⟨rfl, rfl⟩) | (go_at_call 92; refine HOj.out.mono ?_; rintro e w' ⟨rfl, hb⟩))
        go_ret
        exact ⟨by rw [HV.out]; rfl, hBz.trans (hb.mono hBz.size)⟩
    · obtain rfl : j = n := by omega
      have HV : Hid (wOf c (j : Int) = wOn c i) := Lib.hid (by
        rw [← HW.out, List.drop_eq_nil_of_le (by have := Hl.out; omega)]
        unfold wOf
        rw [if_pos (.inr (by have := Hl.out; omega))]; rfl)
      have HOj := Lib.hid (HO.out j hj)
      clear HO
      go_wp2_with (go_at_call 92; refine HOj.out.mono ?_; rintro e w' ⟨rfl, hb⟩)
      go_ret
      exact ⟨by rw [HV.out]; rfl, hBz.trans (hb.mono hBz.size)⟩

/-- How far the count of regions has come. -/
def RegAt (c : List Int) (i k : Nat) (x : Int) : Prop := -1 ≤ x ∧ (k : Int) + x < i ∧ ∃ f j, x = wBack c j ∧ j < f ∧ k + wRegGo c f j = wReg c i
theorem regAt_first (c : List Int) (i : Nat) : RegAt c i 0 (wBack c i) := ⟨(wBack_lt c i).2, by have := (wBack_lt c i).1; omega, i + 1, i, rfl, by omega, by rw [Nat.zero_add]; rfl⟩
theorem regAt_next {c : List Int} {i k : Nat} {x : Int} (h : RegAt c i k x) (h7 : wOf c x = 7) : ∃ m : Nat, x = m ∧ m < c.length ∧ RegAt c i (k + 1) (wBack c m) := by
  obtain ⟨h1, h2, f, j, rfl, hf, hk⟩ := h
  have h0 : 0 ≤ wBack c j ∧ wBack c j < c.length := by
    unfold wOf at h7
    split at h7
    · omega
    · omega
  obtain ⟨m, hm⟩ : ∃ m : Nat, wBack c j = m := ⟨(wBack c j).toNat, by omega⟩
  rw [hm] at h0 h2 h7 ⊢
  cases f with
  | zero => omega
  | succ f =>
    rw [wRegGo, hm, if_pos h7, Int.toNat_natCast] at hk
    have hl := (wBack_lt c m)
    have hj := (wBack_lt c j).1
    exact ⟨m, rfl, by omega, hl.2, by omega, f, m, rfl, by omega, by omega⟩
theorem regAt_end {c : List Int} {i k : Nat} {x : Int} (h : RegAt c i k x) (h7 : wOf c x ≠ 7) : k = wReg c i := by
  obtain ⟨h1, h2, f, j, rfl, hf, hk⟩ := h
  cases f with
  | zero => omega
  | succ f => rw [wRegGo, if_neg h7] at hk; omega

set_option maxRecDepth 100000 in
set_option maxHeartbeats 2000000 in
theorem kregions_any (A B : Option Addr) (na ca n cb : Nat) (z : Int) (c : List Int) (i : Nat) (w : World) (hB : Rd w 1 B (c.map encZ)) (hl : c.length = n) (hi : i ≤ n) (hn : n ≤ 3000000) :
    Calls Tryz.prog 94 #[.agg #[.slice A na ca, .slice B n cb, .int .i64 z], .int .i64 i] w fun e w' => e = .returned (.int .i64 (wReg c i : Nat)) ∧ Below w.heap.size w w' := by
  have Hl := Lib.hid hl
  clear hl
  have hBz : Below w.heap.size w (w.alloc (.cells #[.slice A na ca, .slice B n cb, .int .i64 z] 64)) := (Below.refl _ _).alloc (Nat.le_refl _) _
  have hK := Blk.new w 64 #[.slice A na ca, .slice B n cb, .int .i64 z]
  have HOf := Lib.hid (fun (j : Int) W (h : Below w.heap.size w W) (hj : -10 ≤ j ∧ j ≤ 4000000) => kof_any A B na ca n cb z c j W (hB.below h) Hl.out (by omega) hj)
  have HBk := Lib.hid (fun (j : Nat) W (h : Below w.heap.size w W) (hj : j ≤ n) => kback_any A B na ca n cb z c j W (hB.below h) Hl.out hj (by omega))
  have HR0 := Lib.hid (regAt_first c i)
  have hs0 : w.heap.size < (w.alloc (.cells #[.slice A na ca, .slice B n cb, .int .i64 z] 64)).heap.size := by simp
  have k0 := hK.cell 0
  have k1 := hK.cell 1
  have k2 := hK.cell 2
  simp only [List.getElem?_toArray, List.getElem?_cons_zero, List.getElem?_cons_succ] at k0 k1 k2
  go_enter Tryz.func94, Tryz.ntmps94
  go_wp2_with fail
  refine (HBk.out i _ hBz hi).mono ?_
  generalize wBack c i = x0 at HR0
  rintro e w1 ⟨rfl, hb1⟩
  replace k0 := cell_keep k0 hb1
  replace k1 := cell_keep k1 hb1
  replace k2 := cell_keep k2 hb1
  have hB1 := hBz.trans (hb1.mono hBz.size)
  clear hBz hb1
  go_wp2_with fail
  go_loopw [1, 5] (fun u v wr => ∃ (x : Int) (k : Nat), u = .int .i64 x ∧ v = .int .i64 k ∧ Hid (RegAt c i k x) ∧ Below w.heap.size w wr ∧ wr.cell? ⟨w.heap.size, 0, none⟩ = some (.slice A na ca) ∧ wr.cell? ⟨w.heap.size, 1, none⟩ = some (.slice B n cb) ∧ wr.cell? ⟨w.heap.size, 2, none⟩ = some (.int .i64 z)) (fun u _ _ => (intOf u + 1).toNat)
  case atStart => exact ⟨_, 0, rfl, rfl, HR0, hB1, k0, k1, k2⟩
  case round =>
    clear k0 k1 k2 hB1
    obtain ⟨x, k, rfl, rfl, HR, hb, k0, k1, k2⟩ := hrel
    have hx1 := HR.out.1
    have hx2 := HR.out.2.1
    have HOx := Lib.hid (HOf.out x wr hb (by omega))
    by_cases h7 : wOf c x = 7
    · rw [h7] at HOx
      obtain ⟨m, rfl, hm, hR'⟩ := regAt_next HR.out h7
      have HR' := Lib.hid hR'
      have hm2 : m ≤ n := by have := Hl.out; omega
      clear hR' h7 hm HR
      have hx3 := HR'.out.1
      have hx4 := HR'.out.2.1
      go_wp2_with fail
      refine HOx.out.mono ?_
      rintro e w2 ⟨rfl, hb2⟩
      replace k0 := cell_keep k0 hb2
      replace k1 := cell_keep k1 hb2
      replace k2 := cell_keep k2 hb2
      have hbb := below_step hb hb2 hb.size
      go_wp2_with fail
      refine (HBk.out m w2 hbb hm2).mono ?_
      have hlt : wBack c m < (m : Int) := (wBack_lt c m).1
      generalize wBack c m = y at HR' hx3 hx4 hlt
      rintro e w3 ⟨rfl, hb3⟩
      replace k0 := cell_keep k0 hb3
      replace k1 := cell_keep k1 hb3
      replace k2 := cell_keep k2 hb3
      have hbc := below_step hbb hb3 hbb.size
      go_wp2
      go_roundw
      case rel => exact ⟨y, k + 1, rfl, by go_num, HR', hbc, k0, k1, k2⟩
      case measure => simp [intOf]; omega
    · have HV : Hid (k = wReg c i) := Lib.hid (regAt_end HR.out h7)
      have e7 : (wOf c x == 7) = false := beq_eq_false_iff_ne.2 h7
      clear h7
      generalize wOf c x = y at HOx e7
      go_wp2_with fail
      refine HOx.out.mono ?_
      rintro e w2 ⟨rfl, hb2⟩
      go_wp2
      go_ret
      exact ⟨by rw [HV.out]; rfl, below_step hb hb2 hb.size⟩
end Go.Proofs.YtlbfbkdcjdeagaaGreatDoor

/-
  PLAIN: databases that are written down: checked by reckoning; the two texts that every statement of kerflaw04 tries. No walk.
-/
namespace Go.Proofs.YtlbfbkdcjdeagaaGreatDoor

def offB (x y : Int × Int × Nat) : Bool := decide (x.2.1 < y.1) || decide (y.2.1 < x.1)
def offAll : List (Int × Int × Nat) → Bool
  | [] => true
  | x :: r => r.all (offB x) && offAll r
theorem offAll_spec : ∀ {l : List (Int × Int × Nat)}, offAll l = true → l.Pairwise Off
  | [], _ => .nil
  | x :: r, h => by
    simp only [offAll, Bool.and_eq_true, List.all_eq_true] at h
    refine .cons (fun y hy => ?_) (offAll_spec h.2)
    have := h.1 y hy
    simpa [offB, Off] using this
theorem entG_apart : ∀ {S : List (List (Int × Int))} {c : Nat}, (entG c S).Pairwise Off → Apart S
  | [], c, _ => fun i j a b hi => by simp at hi
  | s :: S, c, h => by
    unfold entG at h
    rw [List.pairwise_append] at h
    have ih := entG_apart h.2.1
    have hx : ∀ (j : Nat) (b : List (Int × Int)), S[j]? = some b → ∀ r, memR s r → memR b r → False := fun j b hb r ⟨x, hx, h1, h2⟩ ⟨y, hy, h3, h4⟩ => by
      have := h.2.2 (x.1, x.2, c) (List.mem_map.2 ⟨x, hx, rfl⟩) (y.1, y.2, c + 1 + j) (mem_entG.2 ⟨j, b, hb, hy, rfl⟩)
      unfold Off at this; simp only at this; omega
    intro i j a b hi hj hij r ha hb
    cases i with
    | zero =>
      cases j with
      | zero => omega
      | succ j => simp at hi hj; subst hi; exact hx j b hj r ha hb
    | succ i =>
      cases j with
      | zero => simp at hi hj; subst hj; exact hx i a hi r hb ha
      | succ j => exact ih i j a b (by simpa using hi) (by simpa using hj) (by omega) r ha hb
def nfB : List (Int × Int) → Bool
  | [] => true
  | x :: r => decide (0 ≤ x.1) && decide (x.1 ≤ x.2) && decide (x.2 ≤ 1114111) && r.all (fun y => decide (x.2 + 1 < y.1)) && nfB r
theorem nfB_spec : ∀ {l : List (Int × Int)}, nfB l = true → NF l
  | [], _ => ⟨trivial, by simp⟩
  | x :: r, h => by
    simp only [nfB, Bool.and_eq_true, List.all_eq_true, decide_eq_true_eq] at h
    obtain ⟨⟨⟨⟨h1, h2⟩, h3⟩, h4⟩, h5⟩ := h
    have ih := nfB_spec h5
    refine ⟨⟨h2, h4, ih.1⟩, fun y hy => ?_⟩
    rcases List.mem_cons.1 hy with rfl | hy
    · exact ⟨h1, h3⟩
    · exact ih.2 y hy
def nodB : List (List UInt8) → Bool
  | [] => true
  | x :: r => r.all (fun y => !(y == x)) && nodB r
theorem nodB_spec : ∀ {l : List (List UInt8)}, nodB l = true → l.Nodup
  | [], _ => .nil
  | x :: r, h => by
    simp only [nodB, Bool.and_eq_true, List.all_eq_true] at h
    refine List.nodup_cons.2 ⟨fun hx => ?_, nodB_spec h.2⟩
    have := h.1 x hx
    simp at this
/-- A database that is written down is one. -/
def DbP.okB (d : DbP) : Bool :=
  decide (d.sets.length = d.names.length) && d.sets.all nfB && nodB d.names && decide (d.names.head? = some otherL) && decide (d.sets.head? = some []) && decide (d.names.length ≤ 64) && offAll (entG 0 d.sets) && d.names.all nameL
theorem DbP.okB_spec {d : DbP} (h : d.okB = true) : d.Ok ∧ Apart d.sets ∧ d.Named := by
  simp only [DbP.okB, Bool.and_eq_true, List.all_eq_true, decide_eq_true_eq] at h
  obtain ⟨⟨⟨⟨⟨⟨⟨h1, h2⟩, h3⟩, h4⟩, h5⟩, h6⟩, h7⟩, h8⟩ := h
  exact ⟨⟨h1, fun l hl => nfB_spec (h2 l hl), nodB_spec h3, h4, h5, h6⟩, entG_apart (offAll_spec h7), h8⟩
/-- Whose text it is, of that it is the database. -/
theorem new_of {d : DbP} {t : List UInt8} (h : d.okB = true) (ht : (d.text == t) = true) (hl : decide (t.length ≤ 65536) = true) : newP t = .ok d := by
  obtain ⟨h1, h2, h3⟩ := DbP.okB_spec h
  have e : d.text = t := by simpa using ht
  subst e
  exact text_back h1 h2 h3 (by simpa using hl)

/- The two texts. -/
def extL : List UInt8 := [69, 120, 116, 101, 110, 100]
def letL : List UInt8 := [76, 101, 116, 116, 101, 114]
def smallD : DbP := ⟨[otherL, extL, letL], [[], [(768, 879)], [(97, 122), (233, 233)]]⟩
def smallT : List UInt8 := [85, 43, 48, 51, 48, 48, 45, 85, 43, 48, 51, 54, 70, 32, 59, 32, 69, 120, 116, 101, 110, 100, 10, 85, 43, 48, 48, 54, 49, 45, 85, 43, 48, 48, 55, 65, 32, 85, 43, 48, 48, 69, 57, 32, 59, 32, 76, 101, 116, 116, 101, 114, 10]
set_option maxRecDepth 100000 in
theorem small_ok : smallD.okB = true := by decide
set_option maxRecDepth 100000 in
theorem small_text : smallD.text = smallT := by decide
theorem new_small : newP smallT = .ok smallD := new_of small_ok (by rw [small_text]; simp) (by decide)
theorem small_get : smallD.get 101 = 2 ∧ smallD.get 769 = 1 ∧ smallD.get 65533 = 0 := by decide
theorem small_class : smallD.num letL = some 2 := by decide
theorem small_rng : smallD.rng.length = 3 := by rw [(rng_perm _).length_eq]; decide
/-- "'a' ; A", "'a'-'b' ; B". -/
def clashL1 : List UInt8 := [39, 97, 39, 32, 59, 32, 65]
def clashL2 : List UInt8 := [39, 97, 39, 45, 39, 98, 39, 32, 59, 32, 66]
def clashT : List UInt8 := clashL1 ++ 10 :: clashL2
theorem clash_says1 : lineP clashL1 = .says [65] [39, 97, 39, 32] := by rfl
theorem clash_says2 : lineP clashL2 = .says [66] [39, 97, 39, 45, 39, 98, 39, 32] := by rfl
theorem clash_parse1 : parseE (spcL [39, 97, 39, 32]) = .ok [(97, 97)] := by rfl
theorem clash_parse2 : parseE (spcL [39, 97, 39, 45, 39, 98, 39, 32]) = .ok [(97, 98)] := by rfl
theorem clash_nf1 : normR [(97, 97)] = [(97, 97)] := normR_of_NF (nfB_spec (by decide))
theorem clash_nf2 : normR [(97, 98)] = [(97, 98)] := normR_of_NF (nfB_spec (by decide))
theorem clash_or : orR [] [(97, 97)] = [(97, 97)] := by unfold orR; exact clash_nf1
theorem clash_step1 : stepL DbP.first clashL1 = .ok ⟨[otherL, [65]], [[], [(97, 97)]]⟩ := by
  unfold stepL
  rw [clash_says1]
  simp only
  unfold addL
  rw [if_neg (by decide), clash_parse1]
  simp only
  rw [clash_nf1, clash_or]
  rfl
theorem clash_step2 : stepL ⟨[otherL, [65]], [[], [(97, 97)]]⟩ clashL2 = .error 41 := by
  unfold stepL
  rw [clash_says2]
  simp only
  unfold addL
  rw [if_neg (by decide), clash_parse2]
  simp only
  rw [clash_nf2]
  rfl
theorem new_clash : newP clashT = .error (41, 2) := by
  unfold newP
  rw [if_neg (by decide)]
  have : splitL clashT = [clashL1, clashL2] := by decide
  rw [this]
  unfold linesGo
  rw [clash_step1]
  simp only
  unfold linesGo
  rw [clash_step2]
end Go.Proofs.YtlbfbkdcjdeagaaGreatDoor

/-
  PLAIN: a database's text read by a reckoning that the kernel can run; the same. No walk.
-/
namespace Go.Proofs.YtlbfbkdcjdeagaaGreatDoor

def insK (x : Int × Int) : List (Int × Int) → List (Int × Int)
  | [] => [x]
  | y :: r => if x.1 ≤ y.1 then x :: y :: r else y :: insK x r
def sortK : List (Int × Int) → List (Int × Int)
  | [] => []
  | x :: r => insK x (sortK r)
theorem insK_perm (x : Int × Int) : ∀ (l : List (Int × Int)), (insK x l).Perm (x :: l)
  | [] => .refl _
  | y :: r => by
    unfold insK
    split
    · exact .refl _
    · exact ((insK_perm x r).cons y).trans (List.Perm.swap x y r)
theorem sortK_perm : ∀ (l : List (Int × Int)), (sortK l).Perm l
  | [] => .refl _
  | x :: r => (insK_perm x (sortK r)).trans ((sortK_perm r).cons x)
theorem insK_rise {x : Int × Int} : ∀ {l : List (Int × Int)}, Rise l → Rise (insK x l)
  | [], _ => by unfold insK Rise; simp
  | y :: r, h => by
    have h' := List.pairwise_cons.1 h
    unfold insK
    split
    · rename_i hxy
      refine List.pairwise_cons.2 ⟨fun z hz => ?_, h⟩
      rcases List.mem_cons.1 hz with rfl | hz
      · exact hxy
      · have := h'.1 z hz; omega
    · rename_i hxy
      refine List.pairwise_cons.2 ⟨fun z hz => ?_, insK_rise h'.2⟩
      rcases List.mem_cons.1 ((insK_perm x r).mem_iff.1 hz) with rfl | hz
      · omega
      · exact h'.1 z hz
theorem sortK_rise : ∀ (l : List (Int × Int)), Rise (sortK l)
  | [] => .nil
  | _ :: r => insK_rise (sortK_rise r)
def normK (l : List (Int × Int)) : List (Int × Int) := mergeR (sortK (keepR l))
theorem normK_eq (l : List (Int × Int)) : normK l = normR l := mergeR_eq (sortK_perm _) (sortK_rise _)
def addK (d : DbP) (name set : List UInt8) : Except Int DbP :=
  if nameL name = false ∨ name = otherL then .error 40 else
  match parseE (spcL set) with
  | .error e => .error e
  | .ok l =>
    match d.num name with
    | some c => if d.clash c (normK l) then .error 41 else .ok ⟨d.names, d.sets.set c (normK ((d.sets.getD c []) ++ normK l))⟩
    | none => if 64 ≤ d.names.length then .error 6 else if d.clash d.names.length (normK l) then .error 41 else .ok ⟨d.names ++ [name], d.sets ++ [normK l]⟩
theorem addK_eq (d : DbP) (n s : List UInt8) : addK d n s = addL d n s := by
  have e : ∀ l, normK l = orR [] (normR l) := fun l => by unfold orR; rw [normK_eq, List.nil_append, normR_of_NF (normR_NF l)]
  have e1 : ∀ a b, normK (a ++ b) = orR a b := fun a b => by rw [normK_eq]; rfl
  unfold addK addL
  split
  · rfl
  · cases parseE (spcL s) with
    | error e => rfl
    | ok l =>
      simp only
      cases d.num n with
      | some c => simp only [e1, normK_eq]
      | none => simp only; rw [e, show orR [] (normR l) = normR l by rw [← e, normK_eq]]
def stepK (d : DbP) (l : List UInt8) : Except Int DbP :=
  match lineP l with
  | .none_ => .ok d
  | .noLine => .error 42
  | .says n s => addK d n s
theorem stepK_eq (d : DbP) (l : List UInt8) : stepK d l = stepL d l := by
  unfold stepK stepL
  cases lineP l with
  | none_ => rfl
  | noLine => rfl
  | says n s => exact addK_eq d n s
def goK (d : DbP) : List (List UInt8) → Nat → Except (Int × Nat) DbP
  | [], _ => .ok d
  | l :: r, i => match stepK d l with
    | .error e => .error (e, i + 1)
    | .ok d' => goK d' r (i + 1)
theorem goK_eq : ∀ (L : List (List UInt8)) (d : DbP) (i : Nat), goK d L i = linesGo d L i
  | [], _, _ => rfl
  | l :: r, d, i => by
    unfold goK linesGo
    rw [stepK_eq]
    cases stepL d l with
    | error e => rfl
    | ok d' => exact goK_eq r d' (i + 1)
/-- A text read by the reckoning. -/
theorem new_K {t : List UInt8} {d : DbP} (hl : decide (t.length ≤ 65536) = true) (h : goK DbP.first (splitL t) 0 = .ok d) : newP t = .ok d := by
  unfold newP
  rw [if_neg (by have := of_decide_eq_true hl; omega), ← goK_eq, h]
end Go.Proofs.YtlbfbkdcjdeagaaGreatDoor

/-
  PLAIN: words: a line end parts a text: the cuts are those of both sides. No walk.
-/
namespace Go.Proofs.YtlbfbkdcjdeagaaGreatDoor

theorem wRegGo_fuel (c : List Int) : ∀ (f g i : Nat), i < f → i < g → wRegGo c f i = wRegGo c g i
  | 0, _, _, h, _ => by omega
  | _, 0, _, _, h => by omega
  | f + 1, g + 1, i, hf, hg => by
    unfold wRegGo
    split
    · rename_i h7
      have hb := wBack_lt c i
      have h0 : 0 ≤ wBack c i := by
        rcases Int.lt_or_le (wBack c i) 0 with h | h
        · have : wOf c (wBack c i) = -1 := by unfold wOf; rw [if_pos (.inl h)]
          omega
        · exact h
      rw [wRegGo_fuel c f g _ (by omega) (by omega)]
    · rfl
section
variable {A B : List Int}
theorem gw_left {i : Nat} (h : i < A.length) : (A ++ 2 :: B).getD i 0 = A.getD i 0 := by
  rw [List.getD_eq_getElem?_getD, List.getD_eq_getElem?_getD, List.getElem?_append_left h]
theorem gw_mid : (A ++ 2 :: B).getD A.length 0 = 2 := by
  rw [List.getD_eq_getElem?_getD, List.getElem?_append_right (Nat.le_refl _), Nat.sub_self]; rfl
theorem gw_right (j : Nat) : (A ++ 2 :: B).getD (A.length + 1 + j) 0 = B.getD j 0 := by
  rw [List.getD_eq_getElem?_getD, List.getD_eq_getElem?_getD, List.getElem?_append_right (by omega), show A.length + 1 + j - A.length = j + 1 by omega, List.getElem?_cons_succ]
theorem back_left : ∀ {i : Nat}, i ≤ A.length → wBack (A ++ 2 :: B) i = wBack A i
  | 0, _ => rfl
  | i + 1, h => by
    unfold wBack
    rw [gw_left (by omega), back_left (by omega)]
theorem of_left {i : Int} (h : i < A.length) : wOf (A ++ 2 :: B) i = wOf A i := by
  unfold wOf
  by_cases h0 : i < 0
  · rw [if_pos (.inl h0), if_pos (.inl h0)]
  · rw [if_neg (by rw [List.length_append, List.length_cons]; omega), if_neg (by omega), gw_left (by omega)]
theorem drop_hang : ∀ (l m : List Int), ((l ++ 2 :: m).dropWhile wHang).head?.getD (-1) = (l.dropWhile wHang).head?.getD (-1) ∨ (l.dropWhile wHang).head?.getD (-1) = -1 ∧ ((l ++ 2 :: m).dropWhile wHang).head?.getD (-1) = 2
  | [], m => .inr ⟨rfl, rfl⟩
  | x :: l, m => by
    rw [List.cons_append, List.dropWhile_cons, List.dropWhile_cons]
    split
    · exact drop_hang l m
    · exact .inl rfl
theorem on_left {i : Nat} (h : i < A.length) : wOn (A ++ 2 :: B) i = wOn A i ∨ wOn A i = -1 ∧ wOn (A ++ 2 :: B) i = 2 := by
  unfold wOn
  rw [List.drop_append_of_le_length (by omega)]
  exact drop_hang _ _
theorem letters_n (z a q : Int) : wLetters z a q 2 = wLetters z a q (-1) := by unfold wLetters; simp [wLet]
theorem letters_z (a q n : Int) : wLetters 2 a q n = wLetters (-1) a q n := by unfold wLetters; simp [wLet]
theorem letters_a {a : Int} (h : a = 2 ∨ a = -1) (z q n : Int) : wLetters z a q n = false := by
  unfold wLetters
  rcases h with rfl | rfl <;> simp [wLet, wInW, wInN, wJoin]
theorem regGo_left : ∀ (f : Nat) {i : Nat}, i ≤ A.length → wRegGo (A ++ 2 :: B) f i = wRegGo A f i
  | 0, _, _ => rfl
  | f + 1, i, h => by
    have hb := wBack_lt A i
    unfold wRegGo
    rw [back_left h, of_left (by omega), regGo_left f (by omega)]
theorem cut_left {i : Nat} (h : i < A.length) : wCut (A ++ 2 :: B) i = wCut A i := by
  unfold wCut
  dsimp only
  have hb := wBack_lt A i
  have hb2 := wBack_lt A (wBack A i).toNat
  rw [gw_left h, gw_left (by omega : i - 1 < A.length), back_left (i := i) (by omega), back_left (i := (wBack A i).toNat) (by omega), of_left (i := wBack A i) (by omega), of_left (i := wBack A (wBack A i).toNat) (by omega)]
  have hr : wReg (A ++ 2 :: B) i = wReg A i := regGo_left _ (by omega)
  rw [hr]
  rcases on_left (B := B) h with e | ⟨e1, e2⟩
  · rw [e]
  · rw [e1, e2]
    simp only [letters_n]
theorem back_right : ∀ (j : Nat), wBack (A ++ 2 :: B) (A.length + 1 + j) = if wBack B j = -1 then (A.length : Int) else A.length + 1 + wBack B j
  | 0 => by
    show wBack _ (A.length + 1) = _
    rw [wBack_here (by rw [gw_mid]; rfl)]; rfl
  | j + 1 => by
    have ih := back_right j
    have hb := wBack_lt B j
    show wBack _ ((A.length + 1 + j) + 1) = _
    rw [wBack, gw_right, ih, wBack]
    by_cases hh : wHang (B.getD j 0) = true
    · simp only [hh, if_true]
    · simp only [hh]
      simp only [Bool.false_eq_true, if_false]
      rw [if_neg (by omega)]; omega
theorem of_right (j : Nat) (hj : j ≤ B.length) : wOf (A ++ 2 :: B) (wBack (A ++ 2 :: B) (A.length + 1 + j)) = if wBack B j = -1 then 2 else wOf B (wBack B j) := by
  have hb := wBack_lt B j
  rw [back_right]
  split
  · rw [wOf_nat (by rw [List.length_append, List.length_cons]; omega), gw_mid]
  · rename_i hne
    obtain ⟨k, hk⟩ : ∃ k : Nat, wBack B j = k := ⟨(wBack B j).toNat, by omega⟩
    rw [hk, show (A.length : Int) + 1 + (k : Int) = ((A.length + 1 + k : Nat) : Int) by omega, wOf_nat (by rw [List.length_append, List.length_cons]; omega), gw_right, wOf_nat (by omega)]
theorem on_right (j : Nat) : wOn (A ++ 2 :: B) (A.length + 1 + j) = wOn B j := by
  unfold wOn
  rw [show A.length + 1 + j + 1 = A.length + (1 + (j + 1)) by omega, ← List.drop_drop, List.drop_left, ← List.drop_drop]; rfl
theorem regGo_right : ∀ (f j : Nat), j < f → j ≤ B.length → wRegGo (A ++ 2 :: B) (A.length + 1 + f) (A.length + 1 + j) = wRegGo B f j
  | 0, _, h, _ => by omega
  | f + 1, j, h, hj => by
    have hb := wBack_lt B j
    show wRegGo _ ((A.length + 1 + f) + 1) _ = _
    rw [wRegGo, of_right j hj, wRegGo]
    by_cases h0 : wBack B j = -1
    · rw [if_pos h0, if_neg (by omega), h0, if_neg (by unfold wOf; rw [if_pos (.inl (by omega))]; omega)]
    · rw [if_neg h0]
      split
      · rw [back_right, if_neg h0]
        have e : ((A.length : Int) + 1 + wBack B j).toNat = A.length + 1 + (wBack B j).toNat := by omega
        rw [e, regGo_right f _ (by omega) (by omega)]
      · rfl
theorem cut_right {j : Nat} (hj : j + 1 < B.length) : wCut (A ++ 2 :: B) (A.length + 1 + (j + 1)) = wCut B (j + 1) := by
  have hr : wReg (A ++ 2 :: B) (A.length + 1 + (j + 1)) = wReg B (j + 1) := by
    unfold wReg
    rw [show A.length + 1 + (j + 1) + 1 = A.length + 1 + (j + 1 + 1) by omega]
    exact regGo_right _ _ (by omega) (by omega)
  unfold wCut
  dsimp only
  rw [show A.length + 1 + (j + 1) - 1 = A.length + 1 + j by omega, show j + 1 - 1 = j by omega, gw_right, gw_right, hr, on_right, of_right _ (by omega), back_right]
  have hb := wBack_lt B (j + 1)
  by_cases h0 : wBack B (j + 1) = -1
  · simp only [h0, if_true]
    have ha : wOf B (-1) = -1 := by unfold wOf; rw [if_pos (.inl (by omega))]
    rw [ha]
    simp only [letters_a (.inl rfl : (2 : Int) = 2 ∨ (2 : Int) = -1), letters_a (.inr rfl : (-1 : Int) = 2 ∨ (-1 : Int) = -1)]
  · simp only [h0, if_false]
    obtain ⟨k, hk⟩ : ∃ k : Nat, wBack B (j + 1) = k := ⟨(wBack B (j + 1)).toNat, by omega⟩
    rw [hk] at hb ⊢
    rw [show ((A.length : Int) + 1 + (k : Int)).toNat = A.length + 1 + k by omega, Int.toNat_natCast, of_right k (by omega)]
    by_cases h1 : wBack B k = -1
    · have ha : wOf B (-1) = -1 := by unfold wOf; rw [if_pos (.inl (by omega))]
      simp only [h1, if_true, ha, letters_z]
    · simp only [h1, if_false]
theorem cut_mid (h : A.getD (A.length - 1) 0 ≠ 1) (hA : A ≠ []) : wCut (A ++ 2 :: B) A.length = true := by
  obtain ⟨i, hi⟩ : ∃ i, A.length = i + 1 := ⟨A.length - 1, by have := List.length_pos_iff.2 hA; omega⟩
  have hm := gw_mid (A := A) (B := B)
  rw [hi] at hm h
  rw [hi, wCut_end (.inr (by rw [hm]; rfl)), gw_left (by omega)]
  rw [Nat.add_sub_cancel] at h
  rw [decide_eq_false (fun k => h k.1)]; rfl
theorem cut_behind : wCut (A ++ 2 :: B) (A.length + 1) = true := by
  rw [wCut_end (.inl (by rw [gw_mid]; rfl)), gw_mid, decide_eq_false (by omega)]; rfl
end
end Go.Proofs.YtlbfbkdcjdeagaaGreatDoor

/-
  PLAIN: two texts joined by an ASCII byte: the runes are those of both sides. No walk.
-/
namespace Go.Proofs.YtlbfbkdcjdeagaaGreatDoor

theorem decN_cont {n b0 b1 b2 b3 R W : Nat} (h : Lib.decodeN n b0 b1 b2 b3 = (R, W)) : (2 ≤ W → 128 ≤ b1) ∧ (3 ≤ W → 128 ≤ b2) ∧ (4 ≤ W → 128 ≤ b3) ∧ W ≤ 4 := by
  unfold Lib.decodeN at h
  repeat' split at h
  all_goals (injection h with _ h; omega)
theorem dec_cont {s : ByteArray} {i k R W : Nat} (h : Utf8.decode s i = (R, W)) (hk : 0 < k) (hW : k < W) : 128 ≤ (s.get! (i + k)).toNat := by
  rw [Lib.decode_at] at h
  obtain ⟨h1, h2, h3, h4⟩ := decN_cont h
  rcases (show k = 1 ∨ k = 2 ∨ k = 3 by omega) with rfl | rfl | rfl
  · exact h1 (by omega)
  · exact h2 (by omega)
  · exact h3 (by omega)
/-- Where an ASCII byte stands a rune begins. -/
theorem ascii_at (s : ByteArray) {z : Nat} (hz : z < s.size) (ha : (s.get! z).toNat < 128) : ∀ (f a : Nat), s.size ≤ a + f → a ≤ z → ∃ x ∈ runesGo s f a, x.2.1 = z
  | 0, a, hf, hle => by omega
  | f + 1, a, hf, hle => by
    have hlt : a < s.size := by omega
    have hd := dec_bd s a hlt
    obtain ⟨⟨R, W⟩, hD⟩ : ∃ d, Utf8.decode s a = d := ⟨_, rfl⟩
    rw [hD] at hd
    simp only at hd
    have hr : runesGo s (f + 1) a = (R, a, a + W) :: runesGo s f (a + W) := by rw [runesGo, if_pos hlt, hD]
    rw [hr]
    by_cases haz : a = z
    · exact ⟨_, List.mem_cons_self, haz⟩
    · have hle2 : a + W ≤ z := by
        rcases Nat.lt_or_ge z (a + W) with h | h
        · have := dec_cont hD (k := z - a) (by omega) (by omega)
          rw [show a + (z - a) = z by omega] at this; omega
        · exact h
      obtain ⟨x, hx, e⟩ := ascii_at s hz ha f (a + W) (by omega) hle2
      exact ⟨x, List.mem_cons_of_mem _ hx, e⟩
def shR (p : Nat) (x : Nat × Nat × Nat) : Nat × Nat × Nat := (x.1, x.2.1 + p, x.2.2 + p)
/-- From a place on the runes are those of what stands there. -/
theorem runes_shift (u t : ByteArray) (p : Nat) (hz : u.size = t.size + p) (hg : ∀ k, u.get! (p + k) = t.get! k) : ∀ (f g a : Nat), t.size ≤ a + f → t.size ≤ a + g → runesGo u g (a + p) = (runesGo t f a).map (shR p)
  | 0, g, a, hf, hgf => by rw [runesGo_end (by omega)]; rfl
  | f + 1, g, a, hf, hgf => by
    by_cases hlt : a < t.size
    · obtain ⟨k, rfl, hk⟩ := runesGo_step (s := u) (f := g) (a := a + p) (by omega) (by omega)
      have hd : Utf8.decode u (a + p) = Utf8.decode t a := by
        rw [Lib.decode_at, Lib.decode_at, show u.size - (a + p) = t.size - a by omega]
        rw [show a + p = p + a by omega, hg, show p + a + 1 = p + (a + 1) by omega, show p + a + 2 = p + (a + 2) by omega, show p + a + 3 = p + (a + 3) by omega, hg, hg, hg]
      have hb := dec_bd t a hlt
      rw [hk, hd, runesGo, if_pos hlt, List.map_cons]
      rw [show a + p + (Utf8.decode t a).2 = a + (Utf8.decode t a).2 + p by omega, runes_shift u t p hz hg f k _ (by omega) (by omega)]; rfl
    · rw [runesGo_end (by omega), runesGo_end (s := t) (by omega)]; rfl
theorem split_at_place (s : ByteArray) {z : Nat} : ∀ (f a : Nat), s.size ≤ a + f → (∃ x ∈ runesGo s f a, x.2.1 = z) → runesGo s f a = ((runesGo s f a).takeWhile fun x => decide (x.2.1 < z)) ++ runesGo s s.size z
  | 0, a, hf, hx => by simp [runesGo] at hx
  | f + 1, a, hf, hx => by
    have hlt : a < s.size := by
      rcases Nat.lt_or_ge a s.size with h | h
      · exact h
      · rw [runesGo_end h] at hx; simp at hx
    have hd := dec_bd s a hlt
    have hr : runesGo s (f + 1) a = ((Utf8.decode s a).1, a, a + (Utf8.decode s a).2) :: runesGo s f (a + (Utf8.decode s a).2) := by rw [runesGo, if_pos hlt]
    obtain ⟨x, hm, hxz⟩ := hx
    rw [hr] at hm ⊢
    by_cases haz : a = z
    · subst haz
      rw [List.takeWhile_cons, if_neg (by simp), List.nil_append]
      obtain ⟨k, hk, e⟩ := runesGo_step (s := s) (f := s.size) (a := a) hlt (by omega)
      rw [e]
      congr 1
      have := runes_shift s s 0 (by omega) (fun k => by rw [Nat.zero_add]) f k (a + (Utf8.decode s a).2) (by omega) (by omega)
      rw [Nat.add_zero] at this
      rw [this]
      exact (List.map_id'' (fun y => by simp [shR]) _).symm
    · rcases List.mem_cons.1 hm with rfl | hm
      · exact absurd hxz haz
      · have hb := runesGo_bd _ _ x hm
        rw [List.takeWhile_cons, if_pos (by simp; omega), List.cons_append]
        congr 1
        exact split_at_place s f _ (by omega) ⟨x, hm, hxz⟩
/-- A text, an ASCII byte, a text. -/
theorem runes_join (s t : ByteArray) (c : UInt8) (hc : c.toNat < 128) {u : ByteArray} (hu : u.data.toList = s.data.toList ++ c :: t.data.toList) :
    runesP u = runesP s ++ (c.toNat, s.size, s.size + 1) :: (runesP t).map (shR (s.size + 1)) := by
  have hz : u.size = s.size + 1 + t.size := by rw [← size_data, hu, List.length_append, List.length_cons, size_data, size_data]; omega
  have hget : ∀ k, u.get! k = u.data.toList.getD k 0 := fun k => (Lib.getD_get!' u k).symm
  have hgc : u.get! s.size = c := by
    rw [hget, hu, List.getD_eq_getElem?_getD, List.getElem?_append_right (by rw [size_data]; exact Nat.le_refl _), size_data, Nat.sub_self]; rfl
  have hplace := ascii_at u (z := s.size) (by omega) (by rw [hgc]; exact hc) u.size 0 (by omega) (Nat.zero_le _)
  have hs : u.extract 0 s.size = s := by
    have : (u.extract 0 s.size).data.toList = s.data.toList := by
      rw [ByteArray.data_extract, Array.toList_extract, List.extract_eq_take_drop, List.drop_zero, Nat.sub_zero, hu, List.take_append_of_le_length (by rw [size_data]; exact Nat.le_refl _), List.take_of_length_le (by rw [size_data]; exact Nat.le_refl _)]
    rw [← bytesOf_data (u.extract 0 s.size), this, bytesOf_data]
  have h1 : runesP s = (runesP u).takeWhile fun x => decide (x.2.1 < s.size) := by
    have := runesP_prefix u (z := s.size) (by omega) (.inr (.inr hplace))
    rw [hs] at this; exact this
  have h2 := split_at_place u (z := s.size) u.size 0 (by omega) hplace
  rw [h1]
  unfold runesP at h2 ⊢
  conv => lhs; rw [h2]
  congr 1
  obtain ⟨k, hk, e⟩ := runesGo_step (s := u) (f := u.size) (a := s.size) (by omega) (by omega)
  have hd : Utf8.decode u s.size = (c.toNat, 1) := by
    rw [Lib.decode_at, hgc]; unfold Lib.decodeN; rw [if_pos hc]
  rw [e, hd]
  simp only
  congr 1
  have := runes_shift u t (s.size + 1) (by omega) (fun k => by
    rw [hget, hu, ← Lib.getD_get!' t, List.getD_eq_getElem?_getD, List.getD_eq_getElem?_getD, List.getElem?_append_right (by rw [size_data]; omega), size_data, show s.size + 1 + k - s.size = k + 1 by omega, List.getElem?_cons_succ]) t.size k 0 (by omega) (by omega)
  rw [Nat.zero_add] at this
  exact this
end Go.Proofs.YtlbfbkdcjdeagaaGreatDoor

/-
  PLAIN: words: the bounds of a text; a line end parts them. No walk.
-/
namespace Go.Proofs.YtlbfbkdcjdeagaaGreatDoor

def wCls (g : Int → Nat) (s : ByteArray) : List Int := (runesP s).map fun x => (g x.1 : Int)
def wPick (c : List Int) : Nat → List Nat → List Nat
  | _, [] => []
  | i, a :: r => (if i = 0 ∨ wCut c i = true then [a] else []) ++ wPick c (i + 1) r
/-- The bounds of a text. -/
def wBounds (g : Int → Nat) (s : ByteArray) : List Nat := wPick (wCls g s) 0 ((runesP s).map (·.2.1)) ++ (if s.size = 0 then [] else [s.size])
theorem wCls_len (g : Int → Nat) (s : ByteArray) : (wCls g s).length = (runesP s).length := by simp [wCls]
theorem wPick_append (c : List Int) : ∀ (P Q : List Nat) (i : Nat), wPick c i (P ++ Q) = wPick c i P ++ wPick c (i + P.length) Q
  | [], Q, i => by simp [wPick]
  | a :: P, Q, i => by
    rw [List.cons_append, wPick, wPick, wPick_append c P Q (i + 1), List.append_assoc, List.length_cons, show i + 1 + P.length = i + (P.length + 1) by omega]
theorem wPick_congr {c d : List Int} : ∀ (P : List Nat) (i j : Nat), (∀ k, k < P.length → ((i + k = 0 ∨ wCut c (i + k) = true) ↔ (j + k = 0 ∨ wCut d (j + k) = true))) → wPick c i P = wPick d j P
  | [], _, _, _ => rfl
  | a :: P, i, j, h => by
    have h0 := h 0 (by simp)
    simp only [Nat.add_zero] at h0
    rw [wPick, wPick, wPick_congr P (i + 1) (j + 1) (fun k hk => by
      have := h (k + 1) (by simpa using hk)
      rw [show i + 1 + k = i + (k + 1) by omega, show j + 1 + k = j + (k + 1) by omega]; exact this)]
    congr 1
    by_cases hc : i = 0 ∨ wCut c i = true
    · rw [if_pos hc, if_pos (h0.1 hc)]
    · rw [if_neg hc, if_neg (fun k => hc (h0.2 k))]
theorem wPick_map (c : List Int) (f : Nat → Nat) : ∀ (P : List Nat) (i : Nat), wPick c i (P.map f) = (wPick c i P).map f
  | [], _ => rfl
  | a :: P, i => by
    rw [List.map_cons, wPick, wPick, wPick_map c f P (i + 1), List.map_append]
    congr 1
    split <;> rfl
/-- A line end parts a text: its bounds are those of both sides. -/
theorem wBounds_parts {g : Int → Nat} (h10 : g 10 = 2) (h13 : ∀ r : Nat, r ≤ 1114111 → g r = 1 → r = 13) {s t u : ByteArray} (hu : u.data.toList = s.data.toList ++ 10 :: t.data.toList) (hs : s.data.toList.getLast? ≠ some 13) :
    wBounds g u = (if wBounds g s = [] then [0] else wBounds g s) ++ (if wBounds g t = [] then [s.size + 1] else (wBounds g t).map (· + (s.size + 1))) := by
  have hz : u.size = s.size + 1 + t.size := by rw [← size_data, hu, List.length_append, List.length_cons, size_data, size_data]; omega
  have hr := runes_join s t 10 (by decide) hu
  have hc : wCls g u = wCls g s ++ 2 :: wCls g t := by
    unfold wCls
    rw [hr, List.map_append, List.map_cons, List.map_map]
    congr 1
    congr 1
    show ((g 10 : Nat) : Int) = 2
    rw [h10]; rfl
  have hp : (runesP u).map (·.2.1) = (runesP s).map (·.2.1) ++ s.size :: ((runesP t).map (·.2.1)).map (· + (s.size + 1)) := by
    rw [hr, List.map_append, List.map_cons, List.map_map, List.map_map]; rfl
  have hlast : wCls g s ≠ [] → (wCls g s).getD ((wCls g s).length - 1) 0 ≠ 1 := fun hne k => by
    have hl : 0 < (runesP s).length := by rw [← wCls_len g]; exact List.length_pos_iff.2 hne
    have hlt : (runesP s).length - 1 < (runesP s).length := by omega
    rw [wCls_len, List.getD_eq_getElem?_getD] at k
    unfold wCls at k
    rw [List.getElem?_map, List.getElem?_eq_getElem hlt] at k
    simp only [Option.map_some, Option.getD_some] at k
    have hx := List.getElem_mem hlt
    generalize hxe : (runesP s)[(runesP s).length - 1] = x at k hx
    have hb := runesP_bd x hx
    have h1 : x.1 = 13 := h13 x.1 hb.2.2.2 (by omega)
    have hd := runesGo_dec _ _ x hx
    have hW : x.2.2 - x.2.1 = 1 ∧ (s.get! x.2.1).toNat = 13 := by
      rw [Lib.decode_at, h1] at hd
      generalize x.2.2 - x.2.1 = W at hd
      unfold Lib.decodeN at hd
      repeat' split at hd
      all_goals (injection hd with e1 e2; omega)
    have hend : x.2.2 = s.size := by
      have hcg := runesP_contig s
      have : ∀ (r : List (Nat × Nat × Nat)) (p z : Nat) (hr : 0 < r.length), Contig p r z → (r[r.length - 1]'(by omega)).2.2 = z := by
        intro r
        induction r with
        | nil => intro p z hr; simp at hr
        | cons y r ih =>
          intro p z _ h
          cases r with
          | nil => exact h.2.2
          | cons y2 r => exact ih _ _ (by simp) h.2.2
      rw [← this _ _ _ hl hcg, hxe]
    refine hs ?_
    rw [List.getLast?_eq_getElem?, size_data]
    have hi : s.size - 1 = x.2.1 := by omega
    have hlt2 : x.2.1 < s.data.toList.length := by rw [size_data]; omega
    have h13' : s.data.toList.getD x.2.1 0 = s.get! x.2.1 := Lib.getD_get!' s _
    rw [List.getD_eq_getElem?_getD, List.getElem?_eq_getElem hlt2, Option.getD_some] at h13'
    rw [hi, List.getElem?_eq_getElem hlt2, h13']
    congr 1
    exact UInt8.toNat_inj.1 hW.2
  unfold wBounds
  rw [hp, hc]
  generalize hA : wCls g s = A at hlast
  generalize hB : wCls g t = B
  have lA : A.length = (runesP s).length := by rw [← hA, wCls_len]
  have lB : B.length = (runesP t).length := by rw [← hB, wCls_len]
  have e1 : wPick (A ++ 2 :: B) 0 ((runesP s).map (·.2.1)) = wPick A 0 ((runesP s).map (·.2.1)) := wPick_congr _ 0 0 fun k hk => by
    rw [List.length_map] at hk
    rw [Nat.zero_add, cut_left (by omega)]
  have e2 : wPick (A ++ 2 :: B) (0 + ((runesP s).map (·.2.1)).length) (s.size :: ((runesP t).map (·.2.1)).map (· + (s.size + 1))) = s.size :: (wPick B 0 ((runesP t).map (·.2.1))).map (· + (s.size + 1)) := by
    rw [Nat.zero_add, List.length_map, ← lA, wPick, if_pos, ← wPick_map]
    · rw [List.singleton_append]
      congr 1
      refine wPick_congr _ _ _ fun k hk => ?_
      rw [List.length_map, List.length_map, ← lB] at hk
      cases k with
      | zero => simp [cut_behind]
      | succ k => rw [cut_right (by omega), Nat.zero_add]; simp
    · by_cases hne : A = []
      · exact .inl (by rw [hne]; rfl)
      · exact .inr (cut_mid (hlast hne) hne)
  rw [wPick_append, e1, e2, if_neg (by omega)]
  have hsz : ∀ v : ByteArray, v.size = 0 → runesP v = [] := fun v hv => by unfold runesP; rw [hv]; rfl
  have q1 : (if wPick A 0 ((runesP s).map (·.2.1)) ++ (if s.size = 0 then [] else [s.size]) = [] then [0] else wPick A 0 ((runesP s).map (·.2.1)) ++ (if s.size = 0 then [] else [s.size])) = wPick A 0 ((runesP s).map (·.2.1)) ++ [s.size] := by
    by_cases h0 : s.size = 0
    · rw [hsz s h0, h0]; simp [wPick]
    · rw [if_neg h0, if_neg (by simp)]
  have q2 : (if wPick B 0 ((runesP t).map (·.2.1)) ++ (if t.size = 0 then [] else [t.size]) = [] then [s.size + 1] else (wPick B 0 ((runesP t).map (·.2.1)) ++ (if t.size = 0 then [] else [t.size])).map (· + (s.size + 1))) = (wPick B 0 ((runesP t).map (·.2.1))).map (· + (s.size + 1)) ++ [u.size] := by
    by_cases h0 : t.size = 0
    · rw [hsz t h0, h0, hz, h0]; simp [wPick]
    · rw [if_neg h0, if_neg (by simp), List.map_append, hz]
      simp; omega
  rw [q1, q2]
  simp
end Go.Proofs.YtlbfbkdcjdeagaaGreatDoor

/-
  PLAIN: the database of words' runes, as a row of names and sets; printed by gen_db.py. No walk.
-/
namespace Go.Proofs.YtlbfbkdcjdeagaaGreatDoor

def wordD : DbP := ⟨[otherL, [67, 114], [76, 102], [78, 101, 119, 108, 105, 110, 101], [69, 120, 116, 101, 110, 100], [90, 119, 106], [70, 111, 114, 109, 97, 116], [82, 101, 103, 105, 111, 110], [75, 97, 116, 97, 107, 97, 110, 97], [72, 101, 98, 114, 101, 119], [76, 101, 116, 116, 101, 114], [81, 117, 111, 116, 101], [68, 111, 117, 98, 108, 101], [77, 105, 100, 78, 117, 109, 76, 101, 116], [77, 105, 100, 76, 101, 116, 116, 101, 114], [77, 105, 100, 78, 117, 109], [68, 105, 103, 105, 116], [76, 111, 119], [83, 112, 97, 99, 101], [80, 105, 99, 116]], [[], [(13, 13)], [(10, 10)], [(11, 12), (133, 133), (8232, 8233)], [(768, 879), (1425, 1469), (8204, 8204), (12441, 12442), (65024, 65039), (127995, 127999)], [(8205, 8205)], [(173, 173), (8206, 8207), (8288, 8288), (65279, 65279)], [(127462, 127487)], [(12449, 12538), (12540, 12540), (65382, 65437)], [(1488, 1514)], [(65, 90), (97, 122), (170, 170), (181, 181), (192, 214), (216, 246), (248, 687), (880, 883), (902, 902), (904, 1153), (1162, 1366), (1568, 1610), (7680, 8124), (44032, 55203), (64256, 64262)], [(39, 39)], [(34, 34)], [(46, 46), (8216, 8217)], [(58, 58), (183, 183)], [(44, 44), (59, 59), (1644, 1644)], [(48, 57), (1632, 1641)], [(95, 95), (8255, 8255)], [(32, 32), (8192, 8198), (12288, 12288)], [(169, 169), (174, 174), (9728, 10175), (127744, 127994), (128000, 128591), (128640, 128767)]]⟩
set_option maxRecDepth 100000 in
theorem word_ok : wordD.okB = true := by kernel_rfl
theorem wordOk : wordD.Ok ∧ Apart wordD.sets ∧ wordD.Named := DbP.okB_spec word_ok
/-- The number of a rune's class. -/
def gW (r : Int) : Nat := wordD.get r
theorem gW_lt (r : Int) : gW r < 20 := get_lt wordOk.1 r
end Go.Proofs.YtlbfbkdcjdeagaaGreatDoor

/-
  props: Names, Set, Ranged, Of, walked.
-/
namespace Go.Proofs.YtlbfbkdcjdeagaaGreatDoor
open Go.RowKit Go.Maps
theorem full_small {d : DbP} (h : d.Ok) (ha : Apart d.sets) {k : Nat} {s : List (Int × Int)} (hk : d.full[k]? = some s) : s.length ≤ 1114112 := by
  have h1 := full_lenS h ha
  obtain ⟨hlt, e⟩ := List.getElem?_eq_some_iff.1 hk
  have hd : d.full = d.full.take k ++ s :: d.full.drop (k + 1) := by rw [← e, ← List.drop_eq_getElem_cons hlt, List.take_append_drop]
  rw [hd, lenS_append] at h1
  have : lenS (s :: d.full.drop (k + 1)) = s.length + lenS (d.full.drop (k + 1)) := rfl
  omega
theorem full_len' {d : DbP} (h : d.Ok) : d.full.length = d.names.length := full_len h
/-- The set of a number; none where there is none. -/
def DbP.setI (d : DbP) (k : Int) : List (Int × Int) := if 0 ≤ k then d.full.getD k.toNat [] else []
set_option maxRecDepth 100000 in
theorem wGet_nil (v : Value) (w : World) : Calls Tryz.prog 70 #[.pointer none, v] w fun e w' => e = .returned (.int .i64 0) ∧ w' = w := by
  go_enter Tryz.func70, Tryz.ntmps70
  go_wp2
  go_ret
  exact ⟨rfl, rfl⟩

/-- The classes of a text's runes. -/
def ofC (d : DbP) (s : ByteArray) : List Nat := (runesP s).map fun x => d.get (x.1 : Int)
def encN (x : Nat) : List Value := [.int .i64 (x : Int)]
theorem encN_ok (l : List Nat) : ∀ y ∈ l.map encN, y.length = 1 ∧ ∀ u ∈ y, u.oneCell' = true := by
  intro y hy; obtain ⟨r, _, rfl⟩ := List.mem_map.1 hy
  exact ⟨rfl, by simp [encN, Value.oneCell']⟩
/-- How far Of has come. -/
def OfCAt (d : DbP) (s : ByteArray) (f p : Nat) (o : List Nat) : Prop := (o ++ (runesGo s f p).map fun x => d.get (x.1 : Int)) = ofC d s ∧ s.size ≤ p + f ∧ p ≤ s.size
theorem ofCAt_first (d : DbP) (s : ByteArray) : OfCAt d s s.size 0 [] := ⟨by rw [List.nil_append]; rfl, by omega, by omega⟩
theorem ofCAt_add {d : DbP} {s : ByteArray} {f p R W : Nat} {o : List Nat} (h : OfCAt d s f p o) (hp : p < s.size) (hd : Utf8.decode s p = (R, W)) (hw : 1 ≤ W ∧ p + W ≤ s.size) : ∃ g, OfCAt d s g (p + W) (o ++ [d.get (R : Int)]) := by
  obtain ⟨g, rfl, hg⟩ := runesGo_step (s := s) (f := f) hp h.2.1
  rw [hd] at hg
  refine ⟨g, ?_, by have := h.2.1; omega, hw.2⟩
  rw [← h.1, hg]; simp
theorem ofCAt_end {d : DbP} {s : ByteArray} {f p : Nat} {o : List Nat} (h : OfCAt d s f p o) (hp : ¬ p < s.size) : o = ofC d s := by
  have := h.1
  rw [runesGo_end (by omega)] at this
  simpa using this

set_option maxRecDepth 100000 in
set_option maxHeartbeats 1000000 in
theorem wOf_any (p : Nat) (d : DbP) (s : ByteArray) (w : World) (h : DbAt w p d) (ho : d.Ok) (ha : Apart d.sets) (hs : s.size ≤ 1000000) :
    Calls Tryz.prog 113 #[.pointer (some ⟨p, 0, none⟩), .string s] w fun e w' => ∃ A n c, e = .returned (.slice A n c) ∧ Own w' w.heap.size 3 1 A n c ((ofC d s).map encN) ∧ Below w.heap.size w w' := by
  obtain ⟨i0, hi0, hz0, hz1, hz2⟩ := info_parts infoInt
  have HD := Lib.hid (And.intro h (And.intro ho ha))
  clear h ho ha
  go_enter Tryz.func113, Tryz.ntmps113
  go_wp2
  go_loopw [5] (fun v wr => ∃ (q f : Nat) (A1 : Option Addr) (n1 c1 : Nat) (o : List Nat), v = .slice A1 n1 c1 ∧ wr.heap[w.heap.size]? = some (.stringIter s q) ∧ Own wr (w.heap.size + 1) 3 1 A1 n1 c1 (o.map encN) ∧
      n1 ≤ q ∧ q ≤ s.size ∧ Hid (OfCAt d s f q o) ∧ Below w.heap.size w wr) (fun _ wr => s.size - wr.iterPos w.heap.size)
  case atStart => exact ⟨0, s.size, none, 0, 0, [], rfl, iter_new _ _ _, Own.nil_ _ _ _ _, by omega, by omega, ofCAt_first d s, below_iter (Below.refl _ _) (Nat.le_refl _) _ _⟩
  case round =>
    obtain ⟨q, f, A1, n1, c1, o, rfl, hit, ho, hn1, hps, HR, hb⟩ := hrel
    have hsz : w.heap.size < wr.heap.size := (Array.getElem?_eq_some_iff.1 hit).1
    have Hpos := Lib.hid (iterPos_of hit)
    by_cases hp : q < s.size
    · obtain ⟨⟨R, W⟩, HDc⟩ : ∃ d, Utf8.decode s q = d := ⟨_, rfl⟩
      have hd := dec_bd s q hp
      have hnx : ∀ ty, (Instr.next (.pointer (some ⟨w.heap.size, 0, none⟩)) true ty).run Tryz.prog wr = _ := fun ty => Lib.run_next_any_at wr w.heap.size s q ty hit hp
      have hit2 := Lib.iterAt_heap wr w.heap.size s q (q + (Utf8.decode s q).2) hit
      have hb2 := Lib.below_iterAt hb (k := w.heap.size) (Nat.le_refl _) s (q + (Utf8.decode s q).2)
      have ho2 := ho.iterAt (k := w.heap.size) (by omega) s (q + (Utf8.decode s q).2)
      have hsz2 : w.heap.size < (wr.iterAt w.heap.size s (q + (Utf8.decode s q).2)).heap.size := by rw [Lib.iterAt_size]; exact hsz
      rw [HDc] at hd hnx hit2 hb2 ho2 hsz2
      simp only at hd hnx hit2 hb2 ho2 hsz2
      obtain ⟨g, HA⟩ := ofCAt_add HR.out hp HDc (by omega)
      have HA := Lib.hid HA
      clear HR HDc
      generalize wr.iterAt w.heap.size s (q + W) = w2 at hnx hit2 hb2 ho2 hsz2
      have HG := Lib.hid (wGet_any p d R w2 (HD.out.1.below hb2) HD.out.2.1 HD.out.2.2)
      clear ho hb hit hsz
      go_wp2_with (first | (go_at_call 70; refine HG.out.mono ?_; rintro e w4 ⟨rfl, hb4⟩; have hit4 := (hb4.block _ hsz2).trans hit2; have ho4 := ho2.below hb4; have hbb := below_step hb2 hb4 hb2.size; have hsz4 := Nat.lt_of_lt_of_le hsz2 hb4.size; clear hit2 ho2 hb2) | (at_builtin; go_must (refine wpList_app rfl (.tmp 15) (.tmp 19) _ rfl (w.heap.size + 1) 3 i0 _ 1 8 Tryz.underlying25 hi0 hz0 hz1 hz2 rfl (by omega) A1 n1 c1 (o.map encN) rfl (ho4.alloc _) _ 1 1 [encN (d.get R)] rfl rfl (Rd.newAt (by simp) rfl) (encN_ok [d.get R]) (by unfold maxLen; omega) (by omega) (by simp; omega) ?_); intro A3 c3 w3 ho3 hg3 hA3; have hit3 := hg3.block w.heap.size (by simp; omega) (fun e => by cases A1 with | none => simp at e | some a => have := (ho4.lt a rfl).1; simp at e; omega); have hb3 := below_app (hbb.alloc (by omega) _) hg3 (by simp; omega) (fun a ha => by have := (ho4.lt a ha).1; omega); clear hg3))
      have hit5 : w3.heap[w.heap.size]? = some (.stringIter s (q + W)) := hit3.trans ((Below.heap_alloc _ _ _ hsz4).trans hit4)
      have Ho3 : Own w3 (w.heap.size + 1) 3 1 A3 (n1 + 1) c3 ((o ++ [d.get (R : Int)]).map encN) := by rw [List.map_append]; exact ho3
      clear hit3 ho3
      go_roundw
      case rel => exact ⟨q + W, g, A3, n1 + 1, c3, o ++ [d.get (R : Int)], rfl, hit5, Ho3, by omega, by omega, HA, hb3⟩
      case measure => rw [iterPos_of hit5, Hpos.out]; omega
    · have hnx : ∀ ty, (Instr.next (.pointer (some ⟨w.heap.size, 0, none⟩)) true ty).run Tryz.prog wr = _ := fun ty => Lib.run_next_end_at wr w.heap.size s q ty hit hp
      have HE := Lib.hid (ofCAt_end HR.out hp)
      go_wp2
      go_ret
      exact ⟨A1, n1, c1, rfl, by rw [← HE.out]; exact ho.more (by omega), hb⟩
set_option maxRecDepth 100000 in
theorem wOf_nil (v : Value) (w : World) : Calls Tryz.prog 113 #[.pointer none, v] w fun e w' => e = .returned (.slice none 0 0) ∧ w' = w := by
  go_enter Tryz.func113, Tryz.ntmps113
  go_wp2
  go_ret
  exact ⟨rfl, rfl⟩
end Go.Proofs.YtlbfbkdcjdeagaaGreatDoor

/-
  REGIONS: a region that draws its order, and whose last operation waits for all the others: the head may be walked as a region of its own. No program's walk.
-/
namespace Go.Proofs.YtlbfbkdcjdeagaaGreatDoor
open Go Go.RowKit

section
variable {P : Program} {Q : Exit → Act → World → Prop} {md : Region.Mode}
/-- The head's post: N at its end, else as it was. -/
def tailQ (N : Act → World → Prop) (Q : Exit → Act → World → Prop) : Exit → Act → World → Prop
  | .normal, a, w => N a w
  | e, a, w => Q e a w
theorem wp_tailQ {N : Act → World → Prop} {o : Oper} {a : Act} {w : World} {K : Act → World → Prop} : Oper.wp P o a w K (tailQ N Q) = Oper.wp P o a w K Q := by
  unfold Oper.wp
  generalize (execOp a.eval o).run P w = r
  cases r with
  | ok n w' => cases n <;> simp only [Oper.upon] <;> rfl
  | halt x w' => cases x <;> rfl
theorem lets_tailQ {N : Act → World → Prop} : LetsOut (tailQ N Q) = LetsOut Q := rfl
/-- Each operation but the last is waited for by a later one. -/
def lastSink (md : Region.Mode) (l : List Oper) : Bool :=
  (List.range (l.length - 1)).all fun i => (List.range l.length).any fun j => decide (i < j) && ((l[j]?).map fun o => o.after.any fun e => Region.binds md e && e.on == i).getD false
/-- Each operation waits for earlier ones alone; none is guarded. -/
def lastDown (md : Region.Mode) (l : List Oper) : Bool :=
  (List.range l.length).all fun j => ((l[j]?).map fun o => o.guard.isNone && o.after.all fun e => !Region.binds md e || decide (e.on < j)).getD true
theorem lastSink_spec {l : List Oper} (h : lastSink md l = true) {i : Nat} (hi : i < l.length - 1) : ∃ j o, i < j ∧ l[j]? = some o ∧ ∃ e ∈ o.after, Region.binds md e = true ∧ e.on = i := by
  unfold lastSink at h
  rw [List.all_eq_true] at h
  have h1 := h i (List.mem_range.2 hi)
  rw [List.any_eq_true] at h1
  obtain ⟨j, _, h2⟩ := h1
  rw [Bool.and_eq_true, decide_eq_true_eq] at h2
  obtain ⟨h3, h4⟩ := h2
  cases ho : l[j]? with
  | none => rw [ho] at h4; cases h4
  | some o =>
    rw [ho] at h4
    simp only [Option.map_some, Option.getD_some, Array.any_eq_true] at h4
    obtain ⟨k, hk, h5⟩ := h4
    simp only [Bool.and_eq_true, beq_iff_eq] at h5
    exact ⟨j, o, h3, ho, _, Array.getElem_mem hk, h5.1, h5.2⟩
theorem lastDown_spec {l : List Oper} (h : lastDown md l = true) {j : Nat} {o : Oper} (hj : l[j]? = some o) : o.guard = none ∧ ∀ e ∈ o.after, Region.binds md e = true → e.on < j := by
  unfold lastDown at h
  rw [List.all_eq_true] at h
  have h1 := h j (List.mem_range.2 (List.getElem?_eq_some_iff.1 hj).1)
  rw [hj] at h1
  simp only [Option.map_some, Option.getD_some, Bool.and_eq_true, Option.isNone_iff_eq_none] at h1
  refine ⟨h1.1, fun e he hb => ?_⟩
  have h2 := Array.all_eq_true_iff_forall_mem.1 h1.2 e he
  rw [hb] at h2
  simpa using h2
/-- The head's list and the whole one tell the same of the head. -/
structure SameHead (md : Region.Mode) (l : List Oper) (L L' : Array Bool) : Prop where
  size : L.size = l.length
  size' : L'.size = l.length - 1
  same : ∀ i, i < l.length - 1 → ∀ d, L.getD i d = L'.getD i d
  inv : ∀ (j : Nat) (o : Oper), l[j]? = some o → L.getD j false = true → ∀ e ∈ o.after, Region.binds md e = true → L.getD e.on false = true
  last : L.getD (l.length - 1) false = false
theorem getD_any {L : Array Bool} {i : Nat} (h : i < L.size) (d d' : Bool) : L.getD i d = L.getD i d' := by simp [h]
theorem head_get {l : List Oper} {i : Nat} (h : i < l.length - 1) : (l.dropLast.toArray)[i]? = l[i]? := by
  rw [List.getElem?_toArray, List.getElem?_dropLast, if_pos h]
theorem SameHead.ready {l : List Oper} {L L' : Array Bool} (h : SameHead md l L L') (hd : lastDown md l = true) {i : Nat} (hi : i < l.length - 1) : i ∈ Region.ready md l.toArray L ↔ i ∈ Region.ready md l.dropLast.toArray L' := by
  rw [mem_ready, mem_ready, head_get hi, List.getElem?_toArray, h.same i hi]
  constructor
  · rintro ⟨h0, o, ho, h1⟩
    exact ⟨h0, o, ho, fun e he hb => by rw [← h.same e.on (by have := (lastDown_spec hd ho).2 e he hb; omega)]; exact h1 e he hb⟩
  · rintro ⟨h0, o, ho, h1⟩
    exact ⟨h0, o, ho, fun e he hb => by rw [h.same e.on (by have := (lastDown_spec hd ho).2 e he hb; omega)]; exact h1 e he hb⟩
theorem SameHead.all {l : List Oper} {L L' : Array Bool} (h : SameHead md l L L') (hs : lastSink md l = true) (hr : l.length - 1 ∈ Region.ready md l.toArray L) : ∀ (k i : Nat), i < l.length - 1 → l.length - 1 ≤ i + k → L.getD i false = true
  | 0, i, hi, hk => by omega
  | k + 1, i, hi, hk => by
    obtain ⟨j, o, hij, ho, e, he, hb, rfl⟩ := lastSink_spec hs hi
    have hjl := (List.getElem?_eq_some_iff.1 ho).1
    by_cases hj : j = l.length - 1
    · obtain ⟨_, o', ho', hall⟩ := mem_ready.1 hr
      rw [List.getElem?_toArray, ← hj, ho] at ho'
      injection ho' with ho'; subst ho'
      exact hall e he hb
    · exact h.inv j o ho (h.all hs hr k j (by omega) (by omega)) e he hb
theorem SameHead.some_ready {l : List Oper} {L L' : Array Bool} (h : SameHead md l L L') (hd : lastDown md l = true) (hn : 0 < l.length) : Region.ready md l.toArray L ≠ [] := fun h0 => by
  have key : ∀ k, k < l.length → L.getD k false = true := by
    intro k
    induction k using Nat.strongRecOn with
    | ind k ih =>
      intro hk
      cases hq : L.getD k false with
      | true => rfl
      | false =>
        obtain ⟨o, ho⟩ : ∃ o, l[k]? = some o := ⟨_, List.getElem?_eq_getElem hk⟩
        have : k ∈ Region.ready md l.toArray L := mem_ready.2 ⟨by rw [getD_any (by rw [h.size]; exact hk) true false]; exact hq, o, by rw [List.getElem?_toArray]; exact ho, fun e he hb => by
          have := (lastDown_spec hd ho).2 e he hb
          exact ih e.on this (by omega)⟩
        rw [h0] at this; cases this
  have := key (l.length - 1) (by omega)
  rw [h.last] at this; cases this
theorem SameHead.step {l : List Oper} {L L' : Array Bool} (h : SameHead md l L L') {i : Nat} (hi : i < l.length - 1) (hr : i ∈ Region.ready md l.toArray L) : SameHead md l (L.setIfInBounds i true) (L'.setIfInBounds i true) := by
  refine ⟨by simpa using h.size, by simpa using h.size', fun k hk d => ?_, fun j o ho hj e he hb => ?_, by rw [getD_set_ne false (by omega)]; exact h.last⟩
  · by_cases e : i = k
    · subst e; simp [h.size, h.size', hk, show i < l.length by omega]
    · rw [getD_set_ne d e, getD_set_ne d e]; exact h.same k hk d
  · by_cases e1 : i = j
    · subst e1
      obtain ⟨_, o', ho', hall⟩ := mem_ready.1 hr
      rw [List.getElem?_toArray, ho] at ho'
      injection ho' with ho'; subst ho'
      exact getD_set_true (hall e he hb)
    · rw [getD_set_ne false e1] at hj
      exact getD_set_true (h.inv j o ho hj e he hb)
theorem wpOp_head {l : List Oper} (hd : lastDown md l = true) {N : Act → World → Prop} {i : Nat} (hi : i < l.length - 1) {K K' : Act → World → Prop} {a : Act} {w : World} (hK : ∀ a w, K a w → K' a w)
    (h : wpOp P l.dropLast.toArray (tailQ N Q) i K a w) : wpOp P l.toArray Q i K' a w := by
  refine wpOp_mono hK ?_
  obtain ⟨o, ho⟩ : ∃ o, l[i]? = some o := ⟨_, List.getElem?_eq_getElem (by omega)⟩
  have hg := (lastDown_spec hd ho).1
  unfold wpOp at h ⊢
  simp only [head_get hi, List.getElem?_toArray, ho, Region.wanted, hg, if_true, wp_tailQ, lets_tailQ] at h ⊢
  exact h
theorem last_step {l : List Oper} {L L' : Array Bool} (h : SameHead md l L L') (hs : lastSink md l = true) (hr : l.length - 1 ∈ Region.ready md l.toArray L) (hn : 0 < l.length) {fuel : Nat} {a : Act} {w : World}
    (H : wpOp P l.toArray Q (l.length - 1) (Q .normal) a w) : wpOp P l.toArray Q (l.length - 1) (wpAny P md l.toArray Q fuel (L.setIfInBounds (l.length - 1) true)) a w := by
  have h0 : Region.ready md l.toArray (L.setIfInBounds (l.length - 1) true) = [] := by
    refine List.eq_nil_iff_forall_not_mem.2 fun j hj => ?_
    obtain ⟨h1, o, ho, _⟩ := mem_ready.1 hj
    have hjl : j < l.length := by rw [List.getElem?_toArray] at ho; exact (List.getElem?_eq_some_iff.1 ho).1
    by_cases e : l.length - 1 = j
    · subst e; simp [h.size, hjl] at h1
    · rw [getD_set_ne true e, getD_any (by rw [h.size]; exact hjl) true false, h.all hs hr (l.length - 1) j (by omega) (by omega)] at h1
      cases h1
  refine wpOp_mono (fun a w hq => ?_) H
  cases fuel with
  | zero => exact ⟨h0, hq⟩
  | succ k => exact ⟨fun _ => hq, by rw [h0]; simp⟩
theorem wpAny_last {l : List Oper} (hs : lastSink md l = true) (hd : lastDown md l = true) (hn : 0 < l.length) :
    ∀ (fuel : Nat) (L L' : Array Bool) (a : Act) (w : World), SameHead md l L L' →
      wpAny P md l.dropLast.toArray (tailQ (wpOp P l.toArray Q (l.length - 1) (Q .normal)) Q) fuel L' a w → wpAny P md l.toArray Q (fuel + 1) L a w := by
  intro fuel
  induction fuel with
  | zero =>
    intro L L' a w hS H
    refine ⟨fun h0 => absurd h0 (hS.some_ready hd hn), fun i hi => ?_⟩
    obtain ⟨_, o, ho, _⟩ := mem_ready.1 hi
    have hil : i < l.length := by rw [List.getElem?_toArray] at ho; exact (List.getElem?_eq_some_iff.1 ho).1
    by_cases e : i < l.length - 1
    · have := (hS.ready hd e).1 hi
      rw [H.1] at this; cases this
    · obtain rfl : i = l.length - 1 := by omega
      exact last_step hS hs hi hn H.2
  | succ fuel ih =>
    intro L L' a w hS H
    refine ⟨fun h0 => absurd h0 (hS.some_ready hd hn), fun i hi => ?_⟩
    obtain ⟨_, o, ho, _⟩ := mem_ready.1 hi
    have hil : i < l.length := by rw [List.getElem?_toArray] at ho; exact (List.getElem?_eq_some_iff.1 ho).1
    by_cases e : i < l.length - 1
    · exact wpOp_head hd e (fun a w h => ih _ _ a w (hS.step e hi) h) (H.2 i ((hS.ready hd e).1 hi))
    · obtain rfl : i = l.length - 1 := by omega
      refine last_step hS hs hi hn (H.1 (List.eq_nil_iff_forall_not_mem.2 fun j hj => ?_))
      obtain ⟨h1, o, ho, _⟩ := mem_ready.1 hj
      have hjl : j < l.length - 1 := by rw [List.getElem?_toArray] at ho; have := (List.getElem?_eq_some_iff.1 ho).1; rwa [List.length_dropLast] at this
      rw [← hS.same j hjl true, getD_any (by rw [hS.size]; omega) true false, hS.all hs hi (l.length - 1) j hjl (by omega)] at h1
      cases h1
theorem tailQ_end {N : Act → World → Prop} {a : Act} {w : World} (h : N a w) : tailQ N Q .normal a w := h
/-- THE HEAD OF A REGION goes as a region that is held (S); then its last operation. -/
theorem wp_region_last {id : Nat} {l : List Oper} {a : Act} {w : World} {S : World → Prop} (n : Nat) (hn : l.length = n + 1) (hm : P.follows .mixedOrders = true) (hs : lastSink .any l = true) (hd : lastDown .any l = true) (hS : S w.drew)
    (h : S w.drew → wpAnyH P .any l.dropLast.toArray (tailQ (wpOp P l.toArray Q n (Q .normal)) Q) S n (Array.replicate n false) a w.drew) : (Code.region id l.toArray true).wp P Q a w := by
  obtain rfl : n = l.length - 1 := by omega
  have hH : SameHead .any l (Array.replicate l.length false) (Array.replicate (l.length - 1) false) := by
    refine ⟨by simp, by simp, fun i hi d => ?_, fun j o ho hj => ?_, ?_⟩
    · simp [hi, show i < l.length by omega]
    · have hl := (List.getElem?_eq_some_iff.1 ho).1
      simp [hl] at hj
    · simp [show l.length - 1 < l.length by omega]
  have := wpAny_last (Q := Q) hs hd (by omega) (l.length - 1) _ _ a w.drew hH (wpAny_of_held _ _ _ _ (h hS))
  rw [show l.length - 1 + 1 = l.toArray.size by simp; omega] at this
  refine wp_region_any hm ?_
  rw [show Array.replicate l.toArray.size false = Array.replicate l.length false by simp]
  exact this
end
end Go.Proofs.YtlbfbkdcjdeagaaGreatDoor

/-
  slices.Contains of numbers, walked. Printed by gen_kkind.py.
-/
namespace Go.Proofs.YtlbfbkdcjdeagaaGreatDoor
open Go.RowKit

/-- None of the first j. -/
def NoneTo (p : Int → Bool) (l : List Int) (j : Nat) : Prop := ∀ k x, k < j → l[k]? = some x → p x = false
theorem noneTo_first (p : Int → Bool) (l : List Int) : NoneTo p l 0 := fun k x hk => by omega
theorem noneTo_next {p : Int → Bool} {l : List Int} {j : Nat} {x : Int} (h : NoneTo p l j) (hx : l[j]? = some x) (hp : p x = false) : NoneTo p l (j + 1) := fun k y hk hy => by
  rcases (by omega : k < j ∨ k = j) with h1 | rfl
  · exact h k y h1 hy
  · rw [hx] at hy; injection hy with hy; rw [← hy]; exact hp
theorem noneTo_end {p : Int → Bool} {l : List Int} {j : Nat} (h : NoneTo p l j) (hj : ¬ j < l.length) : l.any p = false := by
  rw [List.any_eq_false]
  intro x hx
  obtain ⟨k, hk, e⟩ := List.getElem_of_mem hx
  rw [h k x (by omega) (by rw [List.getElem?_eq_getElem hk, e])]
  simp
theorem any_here {p : Int → Bool} {l : List Int} {j : Nat} {x : Int} (hx : l[j]? = some x) (hp : p x = true) : l.any p = true := List.any_eq_true.2 ⟨x, List.mem_of_getElem? hx, hp⟩
theorem ge_nat (j : Nat) : decide (0 ≤ (j : Int)) = true := decide_eq_true (by omega)

set_option maxRecDepth 100000 in
set_option maxHeartbeats 2000000 in
theorem lIndexI_any (A : Option Addr) (n c : Nat) (l : List Int) (x : Int) (w : World) (hA : Rd w 1 A (l.map encZ)) (hl : l.length = n) (hn : n ≤ 4000000) :
    Calls Tryz.prog 87 #[.slice A n c, .int .i64 x] w fun e w' => ∃ v : Int, e = .returned (.int .i64 v) ∧ decide (0 ≤ v) = l.any (x == ·) ∧ w = w' := by
  have Hl := Lib.hid hl
  clear hl
  go_enter Tryz.func87, Tryz.ntmps87
  go_wp2
  go_loopw [8] (fun v wr => ∃ j : Nat, v = .int .i64 j ∧ j ≤ n ∧ Hid (NoneTo (x == ·) l j) ∧ wr = w) (fun v _ => n - (intOf v).toNat)
  case atStart => exact ⟨0, rfl, by omega, Lib.hid (noneTo_first _ l), rfl⟩
  case round =>
    obtain ⟨j, rfl, hj, HN, rfl⟩ := hrel
    by_cases hlt : j < n
    · obtain ⟨y, Hy⟩ : ∃ y, Hid (l[j]? = some y) := ⟨_, Lib.hid (List.getElem?_eq_getElem (by have := Hl.out; omega))⟩
      obtain ⟨b, off, rfl, hc⟩ := hA.atZ Hy.out
      obtain ⟨q, Hq⟩ : ∃ q, Hid ((x == ·) y = q) := ⟨_, Lib.hid rfl⟩
      cases q with
      | true =>
        have HV := Lib.hid (any_here Hy.out Hq.out)
        have he := Hq.out
        go_wp2
        go_ret
        exact ⟨j, rfl, by rw [HV.out]; exact ge_nat j, rfl⟩
      | false =>
        have HN' := Lib.hid (noneTo_next HN.out Hy.out Hq.out)
        have he := Hq.out
        go_wp2
        go_roundw
        case rel => exact ⟨j + 1, by go_num, by omega, HN', trivial⟩
        case measure => simp [intOf]; omega
    · have HV := Lib.hid (noneTo_end HN.out (by rw [Hl.out]; exact hlt))
      go_wp2
      go_ret
      exact ⟨-1, rfl, by rw [HV.out]; rfl, rfl⟩
set_option maxHeartbeats 1000000 in
theorem lContains_any (A : Option Addr) (n c : Nat) (l : List Int) (x : Int) (w : World) (hA : Rd w 1 A (l.map encZ)) (hl : l.length = n) (hn : n ≤ 4000000) :
    Calls Tryz.prog 56 #[.slice A n c, .int .i64 x] w fun e w' => e = .returned (.bool (l.any (x == ·))) ∧ w = w' := by
  have HI := Lib.hid (lIndexI_any A n c l x w hA hl hn)
  clear hA hl
  go_enter Tryz.func56, Tryz.ntmps56
  go_wp2_with fail
  refine HI.out.mono ?_
  rintro e w1 ⟨v, rfl, hv, rfl⟩
  have HV := Lib.hid hv
  clear hv HI
  go_wp2
  go_ret
  exact ⟨by rw [← HV.out]; rfl, rfl⟩
end Go.Proofs.YtlbfbkdcjdeagaaGreatDoor

/-
  runes.Count, At, Index.
-/
namespace Go.Proofs.YtlbfbkdcjdeagaaGreatDoor
open Go.RowKit
end Go.Proofs.YtlbfbkdcjdeagaaGreatDoor

/-
  runes.Runs: the iterator over the runs of a text.
-/
namespace Go.Proofs.YtlbfbkdcjdeagaaGreatDoor
open Go.RowKit Go.Shelf
attribute [local go_sem] Oper.semAt_some

/-- What lies from block m on and below block n stands as it stood. -/
structure Mid (m n : Nat) (W W' : World) : Prop where
  size : W.heap.size ≤ W'.heap.size
  block : ∀ k, m ≤ k → k < n → W'.heap[k]? = W.heap[k]?
theorem Mid.refl (m n : Nat) (W : World) : Mid m n W W := ⟨Nat.le_refl _, fun _ _ _ => rfl⟩
theorem Mid.trans {m n : Nat} {A B C : World} (h : Mid m n A B) (k : Mid m n B C) : Mid m n A C := ⟨Nat.le_trans h.size k.size, fun i h1 h2 => (k.block i h1 h2).trans (h.block i h1 h2)⟩
theorem Mid.of_below {m n : Nat} {A B : World} (h : RowKit.Below A.heap.size A B) (hn : n ≤ A.heap.size) : Mid m n A B := ⟨h.size, fun i _ h2 => h.block i (by omega)⟩
theorem Mid.of_belowB {m n b : Nat} {A B : World} (h : RowKit.Below b A B) (hn : n ≤ b) : Mid m n A B := ⟨h.size, fun i _ h2 => h.block i (by omega)⟩
theorem Mid.setCell {m n : Nat} {A B : World} (h : Mid m n A B) {p : Addr} (hp : p.block < m ∨ n ≤ p.block) (u : Value) : Mid m n A (B.setCell p u) :=
  ⟨by simpa [World.setCell] using h.size, fun i h1 h2 => (Below.heap_setCell B p u i (by omega)).trans (h.block i h1 h2)⟩
theorem Mid.alloc {m n : Nat} {A B : World} (h : Mid m n A B) (hn : n ≤ B.heap.size) (o : Obj) : Mid m n A (B.alloc o) := h.trans (Mid.of_below ((RowKit.Below.refl _ _).alloc (Nat.le_refl _) o) hn)
theorem Mid.drewN {m n : Nat} {A B : World} (h : Mid m n A B) (q : Nat) : Mid m n A (B.drewN q) := ⟨h.size, h.block⟩
theorem Mid.cell {m n : Nat} {A B : World} (h : Mid m n A B) {p : Addr} {v : Value} (hv : A.cell? p = some v) (h1 : m ≤ p.block) (h2 : p.block < n) : B.cell? p = some v :=
  (World.cell?_of_block (h.block p.block h1 h2)).trans hv
theorem Rd.mid {m n s : Nat} {w w' : World} {A : Option Addr} {cs : List (List Value)} (h : Rd w s A cs) (hb : Mid m n w w') (hA : ∀ a, A = some a → m ≤ a.block ∧ a.block < n) : Rd w' s A cs :=
  h.keep fun b off i _ ha hp => hb.cell (p := ⟨b, i, none⟩) hp (hA ⟨b, off, none⟩ ha).1 (hA ⟨b, off, none⟩ ha).2
/-- What a round that goes on keeps for an iterator: what lies from m on and below n, and iterators. -/
def Kp (m n : Nat) (W W' : World) : Prop := Mid m n W W' ∧ KeepsWalks W W'
theorem Kp.trans {m n : Nat} {A B C : World} (h : Kp m n A B) (k : Kp m n B C) : Kp m n A C := ⟨h.1.trans k.1, h.2.trans k.2⟩
theorem Kp.put {m n : Nat} {w : World} (hn : n ≤ w.heap.size) (W : World) (l : Nat) (o o' : Obj) (hl : w.heap.size ≤ l) (h : W.heap[l]? = some o) (hc : o.isCells = false) (hw : o.isWalk = false) : Kp m n W (W.putObj l o') :=
  ⟨⟨by simp, fun k _ hk => World.putObj_heap_other (by omega)⟩, walksK_b W l o o' hl h hc hw⟩
theorem Kp.refl (m n : Nat) (W : World) : Kp m n W W := ⟨Mid.refl _ _ _, KeepsWalks.refl _⟩
theorem grown_of_below {w w' : World} (h : RowKit.Below w.heap.size w w') : w.grownBy w' none := ⟨h.os, h.tape, h.output, h.size, fun k hk _ => h.block k hk⟩
theorem grown_iterAt (w : World) (k : Nat) (s : ByteArray) (p : Nat) : w.grownBy (w.iterAt k s p) (some k) :=
  ⟨rfl, rfl, rfl, by rw [Lib.iterAt_size]; exact Nat.le_refl _, fun j _ hj => Lib.iterAt_other w k j s p (fun e => hj (by rw [e]))⟩
theorem abides_below {β : Type} {B : Nat} {J : β → World → Prop} (h : AbidesFrom B J) {x : β} {w w' : World} (hx : J x w) (hb : RowKit.Below w.heap.size w w') : J x w' := h x w w' none hx (grown_of_below hb) (fun _ e => by cases e)
theorem abides_iterAt {β : Type} {B : Nat} {J : β → World → Prop} (h : AbidesFrom B J) {x : β} {w : World} (hx : J x w) {k : Nat} {s : ByteArray} {p : Nat} (hk : w.heap[k]? = some (.stringIter s p)) (hB : B ≤ k) (p' : Nat) : J x (w.iterAt k s p') :=
  h x w _ (some k) hx (grown_iterAt w k s p') (fun r e => by cases e; exact ⟨hB, _, hk, rfl⟩)

def curV : Option Nat → Int
  | none => -1
  | some a => a
/-- How far the runs have come. -/
def RunsAt (s : ByteArray) (set : List (Int × Int)) (f p : Nat) (cur : Option Nat) (pre : List (Nat × Nat)) : Prop :=
  pre ++ runsGo (hasB set) s.size cur (runesGo s f p) = runsP s set ∧ s.size ≤ p + f ∧ p ≤ s.size ∧ ∀ a, cur = some a → a < p
section
variable {s : ByteArray} {set : List (Int × Int)} {f p : Nat} {cur : Option Nat} {pre : List (Nat × Nat)} {R W : Nat}
theorem runsAt_go (h : RunsAt s set f p cur pre) (hp : p < s.size) (hd : Utf8.decode s p = (R, W)) : ∃ g, f = g + 1 ∧ pre ++ runsGo (hasB set) s.size cur ((R, p, p + W) :: runesGo s g (p + W)) = runsP s set := by
  obtain ⟨g, rfl, hg⟩ := runesGo_step (s := s) (f := f) hp h.2.1
  rw [hd] at hg
  exact ⟨g, rfl, by rw [← h.1, hg]⟩
theorem runsAt_in (h : RunsAt s set f p none pre) (hp : p < s.size) (hd : Utf8.decode s p = (R, W)) (hw : 1 ≤ W ∧ p + W ≤ s.size) (hh : hasB set R = true) : ∃ g, RunsAt s set g (p + W) (some p) pre := by
  obtain ⟨g, rfl, hg⟩ := runsAt_go h hp hd
  rw [runsGo, if_pos hh] at hg
  exact ⟨g, hg, by have := h.2.1; omega, hw.2, fun a ha => by cases ha; omega⟩
theorem runsAt_out (h : RunsAt s set f p none pre) (hp : p < s.size) (hd : Utf8.decode s p = (R, W)) (hw : 1 ≤ W ∧ p + W ≤ s.size) (hh : hasB set R = false) : ∃ g, RunsAt s set g (p + W) none pre := by
  obtain ⟨g, rfl, hg⟩ := runsAt_go h hp hd
  rw [runsGo, if_neg (by rw [hh]; exact Bool.false_ne_true)] at hg
  exact ⟨g, hg, by have := h.2.1; omega, hw.2, fun a ha => by cases ha⟩
theorem runsAt_on {a : Nat} (h : RunsAt s set f p (some a) pre) (hp : p < s.size) (hd : Utf8.decode s p = (R, W)) (hw : 1 ≤ W ∧ p + W ≤ s.size) (hh : hasB set R = true) : ∃ g, RunsAt s set g (p + W) (some a) pre := by
  obtain ⟨g, rfl, hg⟩ := runsAt_go h hp hd
  rw [runsGo, if_pos hh] at hg
  exact ⟨g, hg, by have := h.2.1; omega, hw.2, fun b hb => by have := h.2.2.2 b hb; omega⟩
theorem runsAt_off {a : Nat} (h : RunsAt s set f p (some a) pre) (hp : p < s.size) (hd : Utf8.decode s p = (R, W)) (hw : 1 ≤ W ∧ p + W ≤ s.size) (hh : hasB set R = false) :
    (∃ g, RunsAt s set g (p + W) none (pre ++ [(a, p)])) ∧ pre ++ [(a, p)] <+: runsP s set := by
  obtain ⟨g, rfl, hg⟩ := runsAt_go h hp hd
  rw [runsGo, if_neg (by rw [hh]; exact Bool.false_ne_true)] at hg
  refine ⟨⟨g, by rw [← hg]; simp, by have := h.2.1; omega, hw.2, fun a ha => by cases ha⟩, ⟨_, by rw [← hg]; simp; rfl⟩⟩
theorem runsAt_end (h : RunsAt s set f p none pre) (hp : ¬ p < s.size) : pre = runsP s set := by
  have := h.1
  rw [runesGo_end (by omega), runsGo, List.append_nil] at this
  exact this
theorem runsAt_last {a : Nat} (h : RunsAt s set f p (some a) pre) (hp : ¬ p < s.size) : pre ++ [(a, s.size)] = runsP s set := by
  have := h.1
  rw [runesGo_end (by omega), runsGo] at this
  exact this
end
def encP (x : Nat × Nat) : Array Value := #[.int .i64 x.1, .int .i64 x.2]

/-- A piece of a text. -/
abbrev Span (s : ByteArray) := { x : Nat × Nat // x.1 < x.2 ∧ x.2 ≤ s.size }
theorem runsGo_bd {h : Int → Bool} {z : Nat} : ∀ (l : List (Nat × Nat × Nat)) (cur : Option Nat) (_ : ∀ x ∈ l, x.2.1 < x.2.2 ∧ x.2.2 ≤ z) (_ : ∀ a, cur = some a → a < z) (_ : ∀ a, cur = some a → ∀ x ∈ l, a < x.2.1) (_ : l.Pairwise fun x y => x.2.1 < y.2.1), ∀ y ∈ runsGo h z cur l, y.1 < y.2 ∧ y.2 ≤ z
  | [], none, _, _, _, _, y, hy => by simp [runsGo] at hy
  | [], some a, _, ha, _, _, y, hy => by
    simp [runsGo] at hy; subst hy; have := ha a rfl; simp only; omega
  | x :: l, none, hb, _, _, hp, y, hy => by
    have hb' : ∀ x ∈ l, x.2.1 < x.2.2 ∧ x.2.2 ≤ z := fun q hq => hb q (by simp [hq])
    have hx := hb x (by simp)
    have hp' := List.pairwise_cons.1 hp
    rw [runsGo] at hy
    split at hy
    · exact runsGo_bd l (some x.2.1) hb' (fun a ha => by cases ha; omega) (fun a ha q hq => by cases ha; exact hp'.1 q hq) hp'.2 y hy
    · exact runsGo_bd l none hb' (fun a ha => by cases ha) (fun a ha => by cases ha) hp'.2 y hy
  | x :: l, some a, hb, ha, hc, hp, y, hy => by
    have hb' : ∀ x ∈ l, x.2.1 < x.2.2 ∧ x.2.2 ≤ z := fun q hq => hb q (by simp [hq])
    have hx := hb x (by simp)
    have hp' := List.pairwise_cons.1 hp
    rw [runsGo] at hy
    split at hy
    · exact runsGo_bd l (some a) hb' ha (fun b hbb q hq => hc b hbb q (by simp [hq])) hp'.2 y hy
    · rcases List.mem_cons.1 hy with rfl | hy
      · have := hc a rfl x (by simp); simp only; omega
      · exact runsGo_bd l none hb' (fun a ha => by cases ha) (fun a ha => by cases ha) hp'.2 y hy
theorem runesGo_pair {s : ByteArray} : ∀ (f a : Nat), (runesGo s f a).Pairwise fun x y => x.2.1 < y.2.1
  | 0, a => by simp [runesGo]
  | f + 1, a => by
    rw [runesGo]
    split
    · rename_i hlt
      have hd := dec_bd s a hlt
      refine List.pairwise_cons.2 ⟨fun x hx => ?_, runesGo_pair f _⟩
      have := runesGo_bd f _ x hx
      simp only; omega
    · simp
theorem runsP_bd (s : ByteArray) (set : List (Int × Int)) : ∀ y ∈ runsP s set, y.1 < y.2 ∧ y.2 ≤ s.size :=
  runsGo_bd _ _ (fun x hx => by have := runesP_bd x hx; exact ⟨this.1, this.2.1⟩) (fun a ha => by cases ha) (fun a ha => by cases ha) (runesGo_pair _ _)
theorem runsGo_len {h : Int → Bool} {z : Nat} : ∀ (l : List (Nat × Nat × Nat)) (cur : Option Nat), (runsGo h z cur l).length ≤ l.length + 1
  | [], none => by simp [runsGo]
  | [], some a => by simp [runsGo]
  | x :: l, none => by
    rw [runsGo]; split
    · have := runsGo_len l (some x.2.1) (h := h) (z := z); simp only [List.length_cons]; omega
    · have := runsGo_len l none (h := h) (z := z); simp only [List.length_cons]; omega
  | x :: l, some a => by
    rw [runsGo]; split
    · have := runsGo_len l (some a) (h := h) (z := z); simp only [List.length_cons]; omega
    · have := runsGo_len l none (h := h) (z := z); simp only [List.length_cons]; omega
theorem runsP_len (s : ByteArray) (set : List (Int × Int)) : (runsP s set).length ≤ s.size + 1 := by
  have h1 := runsGo_len (h := hasB set) (z := s.size) (runesP s) none
  have h2 := runesP_len s
  unfold runsP; omega

/-- What the iterator's boxes hold. -/
def RunsIt (w : World) (s : ByteArray) (set : List (Int × Int)) (m bs bset : Nat) : Prop :=
  ∃ A na ca, w.cell? ⟨bs, 0, none⟩ = some (.string s) ∧ w.cell? ⟨bset, 0, none⟩ = some (.slice A na ca) ∧ Rd w 2 A (set.map encR) ∧ set.length = na ∧ na ≤ 4000000 ∧ m ≤ bs ∧ m ≤ bset ∧ ∀ a, A = some a → m ≤ a.block ∧ a.block < w.heap.size
theorem RunsIt.lt {w : World} {s : ByteArray} {set : List (Int × Int)} {m bs bset : Nat} (h : RunsIt w s set m bs bset) : m ≤ w.heap.size := by
  obtain ⟨A, na, ca, h1, _, _, _, _, h6, _⟩ := h
  have := cell_lt h1; simp at this; omega
theorem RunsIt.more {w : World} {s : ByteArray} {set : List (Int × Int)} {m m' bs bset : Nat} (h : RunsIt w s set m bs bset) (hm : m' ≤ m) : RunsIt w s set m' bs bset := by
  obtain ⟨A, na, ca, h1, h2, h3, h4, h5, h6, h7, h8⟩ := h
  exact ⟨A, na, ca, h1, h2, h3, h4, h5, by omega, by omega, fun a ha => ⟨by have := (h8 a ha).1; omega, (h8 a ha).2⟩⟩
theorem not_row {w : World} {row : Option Nat} {b : Nat} {o : Obj} (hb : w.heap[b]? = some o) (hc : o.isCells = true) (hr : ∀ r, row = some r → ∃ o : Obj, w.heap[r]? = some o ∧ o.isCells = false) : some b ≠ row := by
  rintro rfl
  obtain ⟨o', h1, h2⟩ := hr b rfl
  rw [hb] at h1; cases h1; rw [hc] at h2; cases h2
theorem Blk.kept {w w' : World} {row : Option Nat} {g : Nat} {t : TypeId} {cs : Array Value} (h : Blk w g t cs) (hg : w.grownBy w' row) (hr : ∀ r, row = some r → ∃ o : Obj, w.heap[r]? = some o ∧ o.isCells = false) : Blk w' g t cs := h.grown hg (not_row h rfl hr)
theorem RunsIt.mid {w w' : World} {s : ByteArray} {set : List (Int × Int)} {m bs bset : Nat} (h : RunsIt w s set m bs bset) (hb : Mid m w.heap.size w w') : RunsIt w' s set m bs bset := by
  obtain ⟨A, na, ca, h1, h2, h3, h4, h5, h6, h7, h8⟩ := h
  exact ⟨A, na, ca, hb.cell h1 h6 (cell_lt h1), hb.cell h2 h7 (cell_lt h2), h3.mid hb h8, h4, h5, h6, h7, fun a ha => ⟨(h8 a ha).1, Nat.lt_of_lt_of_le (h8 a ha).2 hb.size⟩⟩
theorem RunsIt.below {w w' : World} {s : ByteArray} {set : List (Int × Int)} {m bs bset : Nat} (h : RunsIt w s set m bs bset) (hb : RowKit.Below w.heap.size w w') : RunsIt w' s set m bs bset := h.mid (Mid.of_below hb (Nat.le_refl _))
end Go.Proofs.YtlbfbkdcjdeagaaGreatDoor

/-
  utf.Each: the iterator over the runes of a text.
-/
namespace Go.Proofs.YtlbfbkdcjdeagaaGreatDoor
open Go.RowKit Go.Shelf
attribute [local go_sem] Oper.semAt_some

/-- A rune's place and the rune, as utf.Each gives them. -/
def encU (x : Nat × Nat × Nat) : Array Value := #[.int .i64 (x.2.1 : Nat), .int .i32 (x.1 : Nat)]
/-- How far the runes have come. -/
def UAt (s : ByteArray) (f p : Nat) (pre : List (Nat × Nat × Nat)) : Prop := pre ++ runesGo s f p = runesP s ∧ s.size ≤ p + f ∧ p ≤ s.size
theorem uAt_first (s : ByteArray) : UAt s s.size 0 [] := ⟨rfl, by omega, by omega⟩
theorem uAt_next {s : ByteArray} {f p R W : Nat} {pre : List (Nat × Nat × Nat)} (h : UAt s f p pre) (hp : p < s.size) (hd : Utf8.decode s p = (R, W)) (hw : 1 ≤ W ∧ p + W ≤ s.size) : ∃ g, UAt s g (p + W) (pre ++ [(R, p, p + W)]) := by
  obtain ⟨g, rfl, hg⟩ := runesGo_step (s := s) (f := f) hp h.2.1
  rw [hd] at hg
  exact ⟨g, by rw [← h.1, hg]; simp, by have := h.2.1; omega, hw.2⟩
theorem uAt_pre {s : ByteArray} {f p : Nat} {pre : List (Nat × Nat × Nat)} (h : UAt s f p pre) : pre <+: runesP s := ⟨_, h.1⟩
theorem uAt_end {s : ByteArray} {f p : Nat} {pre : List (Nat × Nat × Nat)} (h : UAt s f p pre) (hp : ¬ p < s.size) : pre = runesP s := by
  have := h.1
  rw [runesGo_end (by omega), List.append_nil] at this
  exact this
set_option maxRecDepth 100000 in
theorem uEach_any (s : ByteArray) (w : World) : Calls Tryz.prog 78 #[.string s] w fun e w' => ∃ bs, e = .returned (.func (.func 115) #[] #[.pointer (some ⟨bs, 0, none⟩)]) ∧ w'.cell? ⟨bs, 0, none⟩ = some (.string s) ∧ RowKit.Below w.heap.size w w' := by
  have hmf : ∀ (fn : Fn) (first cap : Array Value) (w : World), (Instr.makeFunc fn first cap).run Tryz.prog w = .ok (.func fn first cap) w := fun _ _ _ _ => rfl
  go_enter Tryz.func78, Tryz.ntmps78
  go_wp2
  go_ret
  exact ⟨_, rfl, (Blk.new w 9 #[.string s]).cell 0, (RowKit.Below.refl _ _).alloc (Nat.le_refl _) _⟩
set_option maxRecDepth 100000 in
set_option maxHeartbeats 1000000 in
theorem uEach_stops (n : Nat) (hn : 1 ≤ n) (w : World) (s : ByteArray) (bs : Nat) (h : w.cell? ⟨bs, 0, none⟩ = some (.string s)) :
    SeqStopsK Fence.wide n Tryz.prog 115 #[.pointer (some ⟨bs, 0, none⟩)] encU KeepsWalks (fun ys => ys = runesP s) (fun pre => pre <+: runesP s) (runesP s).length w := by
  intro l J Jx W hW hJ _ hY h0
  have hc1 : W.cell? ⟨bs, 0, none⟩ = some (.string s) := cell_keep h hW
  refine callsIn_of_wp Tryz.func115 rfl trivial ?_ rfl
  simp only [Tryz.ntmps115, List.size_toArray, List.length_cons, List.length_nil, Nat.reduceAdd, Nat.reduceSub, Array.replicate_succ, Array.replicate_zero, List.push_toArray, List.append_toArray, List.nil_append, List.cons_append]
  gi_wp2
  gi_loopw [3] (fun _ wr => ∃ (f p : Nat) (pre : List (Nat × Nat × Nat)), Hid (UAt s f p pre) ∧ J pre wr ∧ wr.heap[W.heap.size]? = some (.stringIter s p))
    (fun _ wr => s.size - wr.iterPos W.heap.size)
  case atStart => exact ⟨s.size, 0, [], uAt_first s, abides_below hJ h0 (below_iter (RowKit.Below.refl _ _) (Nat.le_refl _) _ _), iter_new _ _ _⟩
  case round =>
    obtain ⟨f, p, pre, HA, hJs, hit⟩ := hrel
    have Hpos := Lib.hid (iterPos_of hit)
    by_cases hp : p < s.size
    · obtain ⟨⟨R, Wd⟩, hD0⟩ : ∃ d, Utf8.decode s p = d := ⟨_, rfl⟩
      have hd := dec_bd s p hp
      have hnx : ∀ ty, (Instr.next (.pointer (some ⟨W.heap.size, 0, none⟩)) true ty).run Tryz.prog wr = _ := fun ty => Lib.run_next_any_at wr W.heap.size s p ty hit hp
      have hit2 := Lib.iterAt_heap wr W.heap.size s p (p + (Utf8.decode s p).2) hit
      have hJ2 := abides_iterAt hJ hJs hit (Nat.le_refl _) (p + (Utf8.decode s p).2)
      rw [hD0] at hd hnx hit2 hJ2
      simp only at hd hnx hit2 hJ2
      obtain ⟨g, hg⟩ := uAt_next HA.out hp hD0 ⟨hd.1, hd.2.2.1⟩
      have Hg := Lib.hid hg
      have hlen : pre.length < (runesP s).length := by have := (uAt_pre hg).length_le; rw [List.length_append, List.length_singleton] at this; omega
      clear hD0 hg
      generalize wr.iterAt W.heap.size s (p + Wd) = wi at hnx hit2 hJ2
      clear hJs hit
      obtain ⟨fn, tmps, assign, body, hy, hR⟩ := hY pre (R, p, p + Wd) wi hJ2 hlen
      dsimp only [encU] at hy
      gi_wp2_with fail
      refine hR.mono ?_
      rintro e w4 (⟨rfl, hJ4, hk4⟩ | ⟨rfl, hJx4⟩)
      · have hit4 := hk4.same _ _ hit2 rfl
        gi_wp2_with fail
        go_roundw
        case rel => exact ⟨g, p + Wd, pre ++ [(R, p, p + Wd)], Hg, hJ4, hit4⟩
        case measure => rw [iterPos_of hit4, Hpos.out]; omega
      · gi_wp2
        refine bodyPost_ret (results_none rfl _ _ _) rfl ?_
        exact ⟨⟨_, rfl⟩, .inr ⟨_, uAt_pre Hg.out, hJx4⟩⟩
    · have hnx : ∀ ty, (Instr.next (.pointer (some ⟨W.heap.size, 0, none⟩)) true ty).run Tryz.prog wr = _ := fun ty => Lib.run_next_end_at wr W.heap.size s p ty hit hp
      have HE := Lib.hid (uAt_end HA.out hp)
      gi_wp2
      go_end0
      exact ⟨⟨_, rfl⟩, .inl ⟨_, HE.out, hJs⟩⟩
end Go.Proofs.YtlbfbkdcjdeagaaGreatDoor

/-
  Ranges over a function: the two laws of Derived.RangeFuncNested where the assign code only sets slots: the frame that the body begins with is said by what it does to the loop's frame.
-/
namespace Go.Proofs.YtlbfbkdcjdeagaaGreatDoor
open Go.RowKit

section
variable {P : Program} {F : Fence} {n : Nat}
theorem rngH {α : Type} {g : Operand} {ps : Array Tmp} {assign body : Code} {Q : Exit → Act → World → Prop} {a : Act} {w : World}
    (hro : F.round = none) (h1 : 1 ≤ n) {gf : Nat} {lb : Array Value} (hg : a.eval g = .func (.func gf) #[] lb) (hFg : F.fn gf) (eg : ∀ args w, (callFunc gf args).run P w = .ok (.enter gf args) w)
    {encs : α → Array Value} {Kp : World → World → Prop} {S Sp : List α → Prop} {N : Nat} {w0 : World} (hseq : SeqStopsK F (n - 1) P gf lb encs Kp S Sp N w0)
    (hKt : ∀ {A B C : World}, Kp A B → Kp B C → Kp A C) (hKb : ∀ (W : World) (l : Nat) (o o' : Obj), w.heap.size ≤ l → W.heap[l]? = some o → o.isCells = false → o.isWalk = false → Kp W (W.putObj l o')) (hb0 : Below w0.heap.size w0 w) (hps : ∀ x, (encs x).size = ps.size) (hKr : ∀ W, Kp W W)
    (I : List α → World → Prop) (Ix : Code → List α → World → Prop) (hI : OwnFrom w.heap.size I) (hIx : ∀ c, OwnFrom w.heap.size (Ix c)) (h0 : I [] w) (f : Array Value → α → Array Value)
    (hassign : ∀ (l : Nat) (x : α) (W : World) (K : Act → World → Prop), K { tmps := f a.tmps x, defers := [] } W →
      assign.wpIn (F.inRound l) (n - 1 - 1) P (Exit.then K (fun _ _ _ => False)) { tmps := (ps.zip (encs x)).foldl (fun t (p, v) => t.setIfInBounds p v) a.tmps, defers := [] } W)
    (hbody : ∀ (l : Nat) (pre : List α) (x : α) (W : World), w.heap.size ≤ l → (∃ r, W.heap[l]? = some (.loop r)) → I pre W → pre.length < N → body.wpIn (F.inRound l) (n - 1 - 1) P (ownPostG w.heap.size Kp I Ix (pre ++ [x]) W) { tmps := f a.tmps x, defers := [] } W)
    (hdone : ∀ (D : Nat) (xs : List α) (W : World), w.heap.size ≤ D → S xs → I xs W → W.heap[D]? = some (.deferred (some [])) → Q .normal { a with defers := { target := .collected D, args := #[] } :: a.defers } W)
    (hstop : ∀ (D : Nat) (c : Code) (pre : List α) (W : World), w.heap.size ≤ D → Sp pre → Ix c pre W → W.heap[D]? = some (.deferred (some [])) → c.wpIn F n P Q { a with defers := { target := .collected D, args := #[] } :: a.defers } W) :
    (Code.rangeFunc g ps assign body).wpIn F n P Q a w :=
  wpIn_rangeFunc_ownH hro h1 hg hFg eg hseq (fun h k => hKt h k) hKb hb0 hps I Ix hI hIx h0 (fun x a' _ => a' = { tmps := f a.tmps x, defers := [] }) (fun _ _ _ _ _ _ hs _ _ => hs)
    (fun l _ x W K hi hK => hassign l x W K (hK _ _ (KeepsFrom.refl _ _) (hKr W) hi rfl)) (fun l pre x a' W hl hr hi e => by subst e; exact hbody l pre x W hl hr hi) hdone hstop
theorem rngN {α : Type} {g : Operand} {ps : Array Tmp} {assign body : Code} {Q : Exit → Act → World → Prop} {a : Act} {w : World}
    {l₀ : Nat} {r₀ : Loop} (hro : F.round = some l₀) (hl₀ : w.heap[l₀]? = some (.loop r₀)) (h1 : 1 ≤ n) {gf : Nat} {lb : Array Value} (hg : a.eval g = .func (.func gf) #[] lb) (hFg : F.fn gf) (eg : ∀ args w, (callFunc gf args).run P w = .ok (.enter gf args) w)
    {encs : α → Array Value} {Kp : World → World → Prop} {S Sp : List α → Prop} {N : Nat} {w0 : World} (hseq : SeqStopsK F (n - 1) P gf lb encs Kp S Sp N w0)
    (hKt : ∀ {A B C : World}, Kp A B → Kp B C → Kp A C) (hKb : ∀ (W : World) (l : Nat) (o o' : Obj), w.heap.size ≤ l → W.heap[l]? = some o → o.isCells = false → o.isWalk = false → Kp W (W.putObj l o')) (hb0 : Below w0.heap.size w0 w) (hps : ∀ x, (encs x).size = ps.size) (hKr : ∀ W, Kp W W)
    (I : List α → World → Prop) (Ix : Code → List α → World → Prop) (hI : OwnFrom w.heap.size I) (hIx : ∀ c, OwnFrom w.heap.size (Ix c)) (h0 : I [] w) (f : Array Value → α → Array Value)
    (hassign : ∀ (l : Nat) (x : α) (W : World) (K : Act → World → Prop), K { tmps := f a.tmps x, defers := [] } W →
      assign.wpIn (F.inRound l) (n - 1 - 1) P (Exit.then K (fun _ _ _ => False)) { tmps := (ps.zip (encs x)).foldl (fun t (p, v) => t.setIfInBounds p v) a.tmps, defers := [] } W)
    (hbody : ∀ (l : Nat) (pre : List α) (x : α) (W : World), w.heap.size ≤ l → (∃ r, W.heap[l]? = some (.loop r)) → I pre W → pre.length < N → body.wpIn (F.inRound l) (n - 1 - 1) P (ownPostG w.heap.size Kp I Ix (pre ++ [x]) W) { tmps := f a.tmps x, defers := [] } W)
    (hdone : ∀ (xs : List α) (W : World), S xs → I xs W → Q .normal a W)
    (hstop : ∀ (c : Code) (pre : List α) (W : World), Sp pre → Ix c pre W → c.wpIn F n P Q a W) :
    (Code.rangeFunc g ps assign body).wpIn F n P Q a w :=
  wpIn_rangeFunc_ownN hro hl₀ h1 hg hFg eg hseq (fun h k => hKt h k) hKb hb0 hps I Ix hI hIx h0 (fun x a' _ => a' = { tmps := f a.tmps x, defers := [] }) (fun _ _ _ _ _ _ hs _ _ => hs)
    (fun l _ x W K hi hK => hassign l x W K (hK _ _ (KeepsFrom.refl _ _) (hKr W) hi rfl)) (fun l pre x a' W hl hr hi e => by subst e; exact hbody l pre x W hl hr hi) hdone hstop
end
end Go.Proofs.YtlbfbkdcjdeagaaGreatDoor

/-
  WORDS FOR MEMORY, STILL MORE: append onto a row of the call's own, inside a fence.
-/
namespace Go.Proofs.YtlbfbkdcjdeagaaGreatDoor
open Go.RowKit

section
variable {P : Program}
theorem run_app {w : World} (t ty : TypeId)
    (base : Nat) (e : TypeId) (i : TypeInfo) (z : Value) (size bytes : Nat) (ht : P.underlying t = some (.slice e)) (hi : P.info? e = some i) (hz : i.zero = some z)
    (hsize : i.size = size) (hby : i.bytes = bytes) (hzs : z.cells.size = size) (hsz : 0 < size)
    (A : Option Addr) (n c : Nat) (cs : List (List Value)) (hown : Own w base e size A n c cs)
    (A2 : Option Addr) (m c2 : Nat) (xs : List (List Value)) (hm : xs.length = m) (hr : Rd w size A2 xs) (h1 : ∀ y ∈ xs, y.length = size ∧ ∀ u ∈ y, u.oneCell' = true)
    (h63 : n + m ≤ maxLen) (hbytes : (n + m) * bytes ≤ 140737488355328) (hbase : base ≤ w.heap.size) :
    ∃ A' c' w', (Builtin.append_ #[t, t] ty #[.slice A n c, .slice A2 m c2]).run P w = .ok (.slice A' (n + m) c') w' ∧ Own w' base e size A' (n + m) c' (cs ++ xs) ∧ w.grownBy w' (A.map (·.block)) ∧ (A' = A ∨ A' = some ⟨w.heap.size, 0, none⟩) := by
  have hxl : ∀ y ∈ xs, y.length = size := fun y hy => (h1 y hy).1
  have hall : ∀ y ∈ cs ++ xs, y.length = size := fun y hy => by
    rcases List.mem_append.1 hy with hy | hy
    · exact hown.2.1 y hy
    · exact hxl y hy
  have hob : (Value.slice A n c).ownBlock = A.map (·.block) := by cases A <;> rfl
  have key : ∃ v' w', (Builtin.append_ #[t, t] ty #[.slice A n c, .slice A2 m c2]).run P w = .ok v' w' ∧ w'.ownsRow base e size v' (n + m) (cs.flatten ++ xs.flatten) ∧ w.grownBy w' (Value.slice A n c).ownBlock ∧
      (v'.ownBlock = (Value.slice A n c).ownBlock ∨ v'.ownBlock = some w.heap.size) := by
    cases A2 with
    | none =>
      have hnil : xs = [] := Classical.byContradiction fun hne => by obtain ⟨b, off, hb, _⟩ := hr hne; cases hb
      subst hnil
      subst hm
      refine ⟨.slice A n c, w, ?_, by simpa using hown.2.2, World.grownBy.refl w _, .inl rfl⟩
      rcases hown.2.2.2 with ⟨h0, rfl⟩ | ⟨g, cap, cur, h0, _, _, hnc, _⟩
      · rw [h0]; simp [Builtin.append_, run_underlying ht, sizeOf, typeInfo, hi, Builtin.lenOf, Builtin.firstCells]
      · injection h0 with hA _ hc
        subst hA; subst hc
        simp [Builtin.append_, run_underlying ht, sizeOf, typeInfo, hi, Builtin.lenOf, Builtin.firstCells, hnc, storeCells]
    | some ad =>
      have hcells : ∀ j u, xs.flatten[j]? = some u → w.cell? (ad.add j) = some u := by
        intro j u hu
        obtain ⟨k, r, y, rfl, h2, h3⟩ := flatten_at hxl hu
        have hne : xs ≠ [] := fun e => by subst e; simp at h2
        obtain ⟨b, off, hb, hc⟩ := hr hne
        injection hb with hb
        subst hb
        have := hc k r y u h2 h3
        unfold Addr.add
        split
        · rename_i h0; rw [show off + k * size + r = off by omega] at this; exact this
        · simpa [Nat.add_assoc] using this
      obtain ⟨v', w', hrun, h2, h3, _, h5⟩ := run_append_own_at (P := P) w base t ty e i z size bytes ht hi hz hsize hby hzs hsz (.slice A n c) n cs.flatten hown.2.2 ad m c2 xs.flatten
        (by rw [flatten_len hxl, hm]) hcells (fun u hu => by obtain ⟨y, hy, hu⟩ := List.mem_flatten.1 hu; exact (h1 y hy).2 u hu) h63 hbytes hbase
      exact ⟨v', w', hrun, h2, h3, h5⟩
  obtain ⟨v', w', hrun, h2, h3, h4⟩ := key
  rw [hob] at h3 h4
  have hv : ∃ A' c', v' = .slice A' (n + m) c' ∧ (A' = A ∨ A' = some ⟨w.heap.size, 0, none⟩) := by
    rcases h2.2 with ⟨rfl, h0⟩ | ⟨g, cap, cur, rfl, _⟩
    · refine ⟨none, 0, by rw [h0], .inl ?_⟩
      rcases hown.2.2.2 with ⟨h9, _⟩ | ⟨g', cap', cur', h9, _⟩
      · injection h9 with h9; exact h9.symm
      · injection h9 with h9
        rcases h4 with h4 | h4 <;> simp [Value.ownBlock, h9] at h4
    · refine ⟨_, _, rfl, ?_⟩
      rcases h4 with h4 | h4
      · left
        rcases hown.2.2.2 with ⟨h9, _⟩ | ⟨g', cap', cur', h9, _⟩
        · injection h9 with h9; subst h9; simp [Value.ownBlock] at h4
        · injection h9 with h9; subst h9; simp [Value.ownBlock] at h4; rw [h4]
      · right; simp [Value.ownBlock] at h4; rw [h4]
  obtain ⟨A', c', rfl, hA'⟩ := hv
  exact ⟨A', c', w', hrun, ⟨by rw [List.length_append, hown.1, hm], hall, by rw [List.flatten_append]; exact h2⟩, h3, hA'⟩

theorem wpListIn_app {F : Fence} {nF : Nat} {ops : Array Oper} {rest : List Oper} {o : Oper} {a : Act} {w : World} {Q : Exit → Act → World → Prop} (hgd : o.guard = none) (s x : Operand) (t : TypeId)
    (ho : o.op = .call { callee := .builtin .append, args := #[s, x], argTypes := #[t, t] })
    (base : Nat) (e : TypeId) (i : TypeInfo) (z : Value) (size bytes : Nat) (ht : P.underlying t = some (.slice e)) (hi : P.info? e = some i) (hz : i.zero = some z)
    (hsize : i.size = size) (hby : i.bytes = bytes) (hzs : z.cells.size = size) (hsz : 0 < size)
    (A : Option Addr) (n c : Nat) (cs : List (List Value)) (hs : a.eval s = .slice A n c) (hown : Own w base e size A n c cs)
    (A2 : Option Addr) (m c2 : Nat) (xs : List (List Value)) (hx : a.eval x = .slice A2 m c2) (hm : xs.length = m) (hr : Rd w size A2 xs) (h1 : ∀ y ∈ xs, y.length = size ∧ ∀ u ∈ y, u.oneCell' = true)
    (h63 : n + m ≤ maxLen) (hbytes : (n + m) * bytes ≤ 140737488355328) (hbase : base ≤ w.heap.size)
    (h : ∀ A' c' w', Own w' base e size A' (n + m) c' (cs ++ xs) → w.grownBy w' (A.map (·.block)) → (A' = A ∨ A' = some ⟨w.heap.size, 0, none⟩) → wpListIn F nF P ops Q rest (a.put o.dst (.slice A' (n + m) c')) w') : wpListIn F nF P ops Q (o :: rest) a w := by
  refine wpListIn_plain hgd fun K hK' => ?_
  obtain ⟨A', c', w', hrun, r1, r2, r3⟩ := run_app (P := P) t o.type base e i z size bytes ht hi hz hsize hby hzs hsz A n c cs hown A2 m c2 xs hm hr h1 h63 hbytes hbase
  unfold Oper.wpIn
  refine ⟨?_, ?_⟩
  · simp [Oper.about, ho, resolve, Target.leads, Sem.run_pure]
  · rw [Oper.semAt_plain F _ _ (by rw [ho]; intro c hc'; cases hc')]
    simp [execOp, ho, resolve, invoke, builtin, hs, hx, hrun, Result.andThen]
    exact hK' _ _ (h A' c' w' r1 r2 r3)
end
end Go.Proofs.YtlbfbkdcjdeagaaGreatDoor

/-
  Ranges over an iterator that itself ranges over another one: its own loop's record turns in every round, so its contract asks more of what is carried (OwnFrom: whatever is no cells, from the loop's first block on, may be turned). The law for the statement, ahead of a round and within one.
-/
namespace Go.Proofs.YtlbfbkdcjdeagaaGreatDoor
open Go.RowKit

section
variable {P : Program} {F : Fence} {n : Nat} {α : Type}
/-- An iterator's contract, where what is carried abides every turn of what is no cells. -/
def SeqC (F : Fence) (n : Nat) (P : Program) (g : Nat) (lb : Array Value) (encs : α → Array Value) (Kp : World → World → Prop) (S Sp : List α → Prop) (N : Nat) (w : World) : Prop :=
  ∀ (l : Nat) (J Jx : List α → World → Prop) (W : World), Below w.heap.size w W → OwnFrom W.heap.size J → OwnFrom W.heap.size Jx →
    (∀ pre x W1, J pre W1 → pre.length < N → YieldAt F (n - 1) P l (encs x) W1 fun e W' => (e = .returned (.bool true) ∧ J (pre ++ [x]) W' ∧ Kp W1 W' ∧ KeepsFrom W.heap.size W1 W') ∨ (e = .returned (.bool false) ∧ Jx (pre ++ [x]) W' ∧ KeepsFrom W.heap.size W1 W')) →
    J [] W → CallsIn F n P g (#[.func (.yield l) #[] #[]] ++ lb) W fun e W' => (∃ v, e = .returned v) ∧ ((∃ xs, S xs ∧ J xs W') ∨ (∃ pre, Sp pre ∧ Jx pre W'))
theorem SeqC.inRound {g : Nat} {lb : Array Value} {encs : α → Array Value} {Kp : World → World → Prop} {S Sp : List α → Prop} {N : Nat} {w : World} (l : Nat) (h : SeqC F n P g lb encs Kp S Sp N w) : SeqC (F.inRound l) n P g lb encs Kp S Sp N w := h

/-- A loop's record. -/
def recC (fn : FuncId) (tmps : Array Value) (ps : Array Tmp) (assign body : Code) (d : Nat) (st : LoopState) (pe : Option Code) : Loop := { state := st, pending := pe, fn, tmps, params := ps, assign, body, defers := d }
/-- What no round turns but the loop's own record. -/
structure StaysC (B l : Nat) (W W' : World) : Prop where
  size : W.heap.size ≤ W'.heap.size
  same : ∀ (k : Nat) (o : Obj), B ≤ k → k ≠ l → W.heap[k]? = some o → o.isCells = false → W'.heap[k]? = some o

variable {encs : α → Array Value} {Kp : World → World → Prop} {I : List α → World → Prop} {Ix : Code → List α → World → Prop} {ps : Array Tmp} {assign body : Code}
/-- One round, from yield's call to its answer. -/
theorem yieldC {fn : FuncId} {tmps : Array Value} {d l B m : Nat} {pre : List α} {x : α} {W : World} {a' : Act} (hfn : F.fn fn) (hps : (encs x).size = ps.size) (hB : B ≤ l)
    (hKt : ∀ {A B C : World}, Kp A B → Kp B C → Kp A C) (hKb : ∀ (W : World) (l : Nat) (o o' : Obj), B ≤ l → W.heap[l]? = some o → o.isCells = false → o.isWalk = false → Kp W (W.putObj l o'))
    (hI : OwnFrom B I) (hIx : ∀ c, OwnFrom B (Ix c)) (hi : I pre W) (hl : W.heap[l]? = some (.loop (recC fn tmps ps assign body d .ready none)))
    (hassign : ∀ K : Act → World → Prop, K a' W → assign.wpIn (F.inRound l) m P (Exit.then K (fun _ _ _ => False)) { tmps := (ps.zip (encs x)).foldl (fun t (p, v) => t.setIfInBounds p v) tmps, defers := [] } W)
    (hbody : ∀ W', (∃ r, W'.heap[l]? = some (.loop r)) → I pre W' → body.wpIn (F.inRound l) m P (ownPostG B Kp I Ix (pre ++ [x]) W') a' W') :
    YieldAt F m P l (encs x) W fun e W' =>
      (e = .returned (.bool true) ∧ (I (pre ++ [x]) W' ∧ W'.heap[l]? = some (.loop (recC fn tmps ps assign body d .ready none)) ∧ StaysC B l W W') ∧ Kp W W') ∨
      (e = .returned (.bool false) ∧ ∃ c, Ix c (pre ++ [x]) W' ∧ W'.heap[l]? = some (.loop (recC fn tmps ps assign body d .done (some c))) ∧ StaysC B l W W') := by
  refine ⟨fn, _, assign, body, run_yield (P := P) (args := encs x) hl hps, roundIn_of_wpIn hfn (hassign _ ?_)⟩
  have hlt := (Array.getElem?_eq_some_iff.1 hl).1
  refine ⟨_, run_beginRound hl rfl, ?_⟩
  have hl2 : (W.putObj l (.loop { recC fn tmps ps assign body d .ready none with state := .busy })).heap[l]? = some (.loop { recC fn tmps ps assign body d .ready none with state := .busy }) := World.putObj_heap_same hlt
  have hk2 : Kp W (W.putObj l (.loop { recC fn tmps ps assign body d .ready none with state := .busy })) := hKb _ _ _ _ hB hl rfl rfl
  refine wpIn_mono (hbody _ ⟨_, hl2⟩ (hI.putObj _ hi hB hl rfl)) ?_
  -- the round's end, whichever way it is left
  have last : ∀ (jump : Option Code) (W3 : World), KeepsFrom B (W.putObj l (.loop { recC fn tmps ps assign body d .ready none with state := .busy })) W3 →
      ∃ W4, (Instr.endRound l jump).run P W3 = .ok (.bool jump.isNone) W4 ∧ W4.heap[l]? = some (.loop (recC fn tmps ps assign body d (if jump.isNone then .ready else .done) jump)) ∧ StaysC B l W W4 ∧
        (∀ Y : World → Prop, (∀ (o o' : Obj), W3.heap[l]? = some o → o.isCells = false → o.isWalk = false → Y (W3.putObj l o')) → Y W4) := fun jump W3 hk => by
    have hl3 := hk.same _ _ hB hl2 rfl
    refine ⟨_, run_endRound (P := P) jump hl3, World.putObj_heap_same (Array.getElem?_eq_some_iff.1 hl3).1, ⟨by have := hk.size; simpa using this, fun k o hBk hne ho hc => ?_⟩, fun Y hY => hY _ _ hl3 rfl rfl⟩
    exact (World.putObj_heap_other hne).trans (hk.same k o hBk ((World.putObj_heap_other hne).trans ho) hc)
  rintro e a3 W3 hp
  cases e with
  | normal =>
    obtain ⟨hk, hkp, hi3⟩ := hp
    obtain ⟨W4, hr, h4, hs, hY⟩ := last none W3 hk
    exact ⟨_, _, hr, .inl ⟨rfl, ⟨hY (fun W => I (pre ++ [x]) W) (fun o o' ho hc _ => hI.putObj o' hi3 hB ho hc), h4, hs⟩, hKt (hKt hk2 hkp) (hY (Kp W3) (fun o o' ho hc hw => hKb W3 l o o' hB ho hc hw))⟩⟩
  | ret =>
    obtain ⟨hk, hi3⟩ := hp
    obtain ⟨W4, hr, h4, hs, hY⟩ := last (some .ret) W3 hk
    exact ⟨_, _, hr, .inr ⟨rfl, _, hY (fun W => Ix .ret (pre ++ [x]) W) (fun o o' ho hc _ => (hIx _).putObj o' hi3 hB ho hc), h4, hs⟩⟩
  | exit id =>
    obtain ⟨hk, hi3⟩ := hp
    obtain ⟨W4, hr, h4, hs, hY⟩ := last (some (.exit id)) W3 hk
    exact ⟨_, _, hr, .inr ⟨rfl, _, hY (fun W => Ix (.exit id) (pre ++ [x]) W) (fun o o' ho hc _ => (hIx _).putObj o' hi3 hB ho hc), h4, hs⟩⟩
  | goto t =>
    obtain ⟨hk, hi3⟩ := hp
    obtain ⟨W4, hr, h4, hs, hY⟩ := last (some (.goto t)) W3 hk
    exact ⟨_, _, hr, .inr ⟨rfl, _, hY (fun W => Ix (.goto t) (pre ++ [x]) W) (fun o o' ho hc _ => (hIx _).putObj o' hi3 hB ho hc), h4, hs⟩⟩
  | panic ch => exact hp.elim
  | outgrown => exact hp.elim

/-- What lies ahead of the loop's blocks' end stays where only later blocks turn. -/
theorem grown_later {A B : World} {row : Option Nat} {W1 : World} (hg : A.grownBy B row) (hr : ∀ r, row = some r → W1.heap.size ≤ r ∧ ∃ o : Obj, A.heap[r]? = some o ∧ o.isCells = false) {k : Nat} {o : Obj} (hk : k < W1.heap.size) (ho : A.heap[k]? = some o) : B.heap[k]? = some o :=
  (hg.block k (Array.getElem?_eq_some_iff.1 ho).1 (fun e => by have := (hr k e.symm).1; omega)).trans ho
theorem own_later {β : Type} {B : Nat} {I : β → World → Prop} (h : OwnFrom B I) {C : Nat} (hBC : B ≤ C) : OwnFrom C I := fun s X Y row hs hg hr => h s X Y row hs hg (fun r e => ⟨Nat.le_trans hBC (hr r e).1, (hr r e).2⟩)

variable {g : Operand} {Q : Exit → Act → World → Prop} {a : Act} {w : World}
theorem rngC (hro : F.round = none) (h1 : 1 ≤ n) {gf : Nat} {lb : Array Value} (hg : a.eval g = .func (.func gf) #[] lb) (hFg : F.fn gf) (eg : ∀ args w, (callFunc gf args).run P w = .ok (.enter gf args) w)
    {S Sp : List α → Prop} {N : Nat} {w0 : World} (hseq : SeqC F (n - 1) P gf lb encs Kp S Sp N w0)
    (hKt : ∀ {A B C : World}, Kp A B → Kp B C → Kp A C) (hKb : ∀ (W : World) (l : Nat) (o o' : Obj), w.heap.size ≤ l → W.heap[l]? = some o → o.isCells = false → o.isWalk = false → Kp W (W.putObj l o')) (hb0 : Below w0.heap.size w0 w) (hps : ∀ x, (encs x).size = ps.size)
    (I : List α → World → Prop) (Ix : Code → List α → World → Prop) (hI : OwnFrom w.heap.size I) (hIx : ∀ c, OwnFrom w.heap.size (Ix c)) (h0 : I [] w) (f : Array Value → α → Array Value)
    (hassign : ∀ (l : Nat) (x : α) (W : World) (K : Act → World → Prop), K { tmps := f a.tmps x, defers := [] } W →
      assign.wpIn (F.inRound l) (n - 1 - 1) P (Exit.then K (fun _ _ _ => False)) { tmps := (ps.zip (encs x)).foldl (fun t (p, v) => t.setIfInBounds p v) a.tmps, defers := [] } W)
    (hbody : ∀ (l : Nat) (pre : List α) (x : α) (W : World), w.heap.size ≤ l → (∃ r, W.heap[l]? = some (.loop r)) → I pre W → pre.length < N → body.wpIn (F.inRound l) (n - 1 - 1) P (ownPostG w.heap.size Kp I Ix (pre ++ [x]) W) { tmps := f a.tmps x, defers := [] } W)
    (hdone : ∀ (D : Nat) (xs : List α) (W : World), w.heap.size ≤ D → S xs → I xs W → W.heap[D]? = some (.deferred (some [])) → Q .normal { a with defers := { target := .collected D, args := #[] } :: a.defers } W)
    (hstop : ∀ (D : Nat) (c : Code) (pre : List α) (W : World), w.heap.size ≤ D → Sp pre → Ix c pre W → W.heap[D]? = some (.deferred (some [])) → c.wpIn F n P Q { a with defers := { target := .collected D, args := #[] } :: a.defers } W) :
    (Code.rangeFunc g ps assign body).wpIn F n P Q a w := by
  refine wpIn_rangeFunc (fun fn hfn => ?_)
  rw [hro]
  have z1 : (w.alloc (.deferred (some []))).heap.size = w.heap.size + 1 := by simp
  have hL : ((w.alloc (.deferred (some []))).alloc (.loop (recC fn a.tmps ps assign body w.heap.size .ready none))).heap[w.heap.size + 1]? = some (.loop (recC fn a.tmps ps assign body w.heap.size .ready none)) := by
    have := World.alloc_heap_new (w.alloc (.deferred (some []))) (.loop (recC fn a.tmps ps assign body w.heap.size .ready none)); rwa [z1] at this
  have hD : ((w.alloc (.deferred (some []))).alloc (.loop (recC fn a.tmps ps assign body w.heap.size .ready none))).heap[w.heap.size]? = some (.deferred (some [])) := (Below.heap_alloc _ _ _ (by simp)).trans (World.alloc_heap_new w _)
  have hz : ((w.alloc (.deferred (some []))).alloc (.loop (recC fn a.tmps ps assign body w.heap.size .ready none))).heap.size = w.heap.size + 2 := by simp
  have hi : I [] ((w.alloc (.deferred (some []))).alloc (.loop (recC fn a.tmps ps assign body w.heap.size .ready none))) := hI.alloc _ (hI.alloc _ h0)
  have hb1 : Below w0.heap.size w0 ((w.alloc (.deferred (some []))).alloc (.loop (recC fn a.tmps ps assign body w.heap.size .ready none))) := (hb0.alloc hb0.size _).alloc (by simp; have := hb0.size; omega) _
  refine ⟨w.heap.size + 1, [{ target := .collected w.heap.size, args := #[] }], (w.alloc (.deferred (some []))).alloc (.loop (recC fn a.tmps ps assign body w.heap.size .ready none)), { target := .fn (.func gf) lb, args := #[.func (.yield (w.heap.size + 1)) #[] #[]] },
    (w.alloc (.deferred (some []))).alloc (.loop (recC fn a.tmps ps assign body w.heap.size .ready none)), gf, #[.func (.yield (w.heap.size + 1)) #[] #[]] ++ lb, (w.alloc (.deferred (some []))).alloc (.loop (recC fn a.tmps ps assign body w.heap.size .ready none)), ?_, ?_, ?_, ?_, fun _ => h1, ?_⟩
  · exact run_enterLoop_outer _ _ _ _ _
  · simp only [resolve, hg]; simp [go_sem]
  · intro f' hf'; simp [Target.leads] at hf'; subst hf'; exact hFg
  · simp [invoke, go_sem, eg]
  · generalize hW1 : (w.alloc (.deferred (some []))).alloc (.loop (recC fn a.tmps ps assign body w.heap.size .ready none)) = W1 at hL hD hz hi hb1
    have hle : w.heap.size ≤ W1.heap.size := by omega
    refine (hseq (w.heap.size + 1)
      (fun pre W => I pre W ∧ W.heap[w.heap.size + 1]? = some (.loop (recC fn a.tmps ps assign body w.heap.size .ready none)) ∧ W.heap[w.heap.size]? = some (.deferred (some [])))
      (fun pre W => ∃ c, Ix c pre W ∧ W.heap[w.heap.size + 1]? = some (.loop (recC fn a.tmps ps assign body w.heap.size .done (some c))) ∧ W.heap[w.heap.size]? = some (.deferred (some [])))
      W1 hb1
      (fun s X Y row hs hg' hr => ⟨own_later hI hle s X Y row hs.1 hg' hr, grown_later hg' hr (by omega) hs.2.1, grown_later hg' hr (by omega) hs.2.2⟩)
      (fun s X Y row hs hg' hr => let ⟨c, h1, h2, h3⟩ := hs; ⟨c, own_later (hIx c) hle s X Y row h1 hg' hr, grown_later hg' hr (by omega) h2, grown_later hg' hr (by omega) h3⟩)
      (fun pre x W hj hlen => YieldAt.mono (yieldC (Kp := Kp) (l := w.heap.size + 1) hfn (hps x) (Nat.le_succ _) (fun h k => hKt h k) hKb hI hIx hj.1 hj.2.1 (hassign _ x W) (fun W' hr hi' => hbody _ pre x W' (Nat.le_succ _) hr hi' hlen)) ?_) ⟨hi, hL, hD⟩).mono ?_
    · rintro e W' (⟨he, ⟨h2, h3, h4⟩, h5⟩ | ⟨he, c, h2, h3, h4⟩)
      · exact .inl ⟨he, ⟨h2, h3, h4.same _ _ (Nat.le_refl _) (by omega) hj.2.2 rfl⟩, h5, ⟨h4.size, fun k o hk ho hc => h4.same k o (by omega) (by omega) ho hc⟩⟩
      · exact .inr ⟨he, ⟨c, h2, h3, h4.same _ _ (Nat.le_refl _) (by omega) hj.2.2 rfl⟩, ⟨h4.size, fun k o hk ho hc => h4.same k o (by omega) (by omega) ho hc⟩⟩
    · rintro e W2 ⟨⟨v, rfl⟩, (⟨xs, hS, hi, hl, hk⟩ | ⟨pre, hSp, c, hi, hl, hk⟩)⟩
      · exact ⟨none, _, run_endLoop (P := P) hl (by simp [recC]), hdone _ xs _ (Nat.le_refl _) hS (hI.putObj _ hi (Nat.le_succ _) hl rfl) ((World.putObj_heap_other (by omega)).trans hk)⟩
      · exact ⟨some c, _, run_endLoop (P := P) hl (by simp [recC]), hstop _ c pre _ (Nat.le_refl _) hSp ((hIx c).putObj _ hi (Nat.le_succ _) hl rfl) ((World.putObj_heap_other (by omega)).trans hk)⟩

theorem rngCN {l₀ : Nat} {r₀ : Loop} (hro : F.round = some l₀) (hl₀ : w.heap[l₀]? = some (.loop r₀)) (h1 : 1 ≤ n) {gf : Nat} {lb : Array Value} (hg : a.eval g = .func (.func gf) #[] lb) (hFg : F.fn gf) (eg : ∀ args w, (callFunc gf args).run P w = .ok (.enter gf args) w)
    {S Sp : List α → Prop} {N : Nat} {w0 : World} (hseq : SeqC F (n - 1) P gf lb encs Kp S Sp N w0)
    (hKt : ∀ {A B C : World}, Kp A B → Kp B C → Kp A C) (hKb : ∀ (W : World) (l : Nat) (o o' : Obj), w.heap.size ≤ l → W.heap[l]? = some o → o.isCells = false → o.isWalk = false → Kp W (W.putObj l o')) (hb0 : Below w0.heap.size w0 w) (hps : ∀ x, (encs x).size = ps.size)
    (I : List α → World → Prop) (Ix : Code → List α → World → Prop) (hI : OwnFrom w.heap.size I) (hIx : ∀ c, OwnFrom w.heap.size (Ix c)) (h0 : I [] w) (f : Array Value → α → Array Value)
    (hassign : ∀ (l : Nat) (x : α) (W : World) (K : Act → World → Prop), K { tmps := f a.tmps x, defers := [] } W →
      assign.wpIn (F.inRound l) (n - 1 - 1) P (Exit.then K (fun _ _ _ => False)) { tmps := (ps.zip (encs x)).foldl (fun t (p, v) => t.setIfInBounds p v) a.tmps, defers := [] } W)
    (hbody : ∀ (l : Nat) (pre : List α) (x : α) (W : World), w.heap.size ≤ l → (∃ r, W.heap[l]? = some (.loop r)) → I pre W → pre.length < N → body.wpIn (F.inRound l) (n - 1 - 1) P (ownPostG w.heap.size Kp I Ix (pre ++ [x]) W) { tmps := f a.tmps x, defers := [] } W)
    (hdone : ∀ (xs : List α) (W : World), S xs → I xs W → Q .normal a W)
    (hstop : ∀ (c : Code) (pre : List α) (W : World), Sp pre → Ix c pre W → c.wpIn F n P Q a W) :
    (Code.rangeFunc g ps assign body).wpIn F n P Q a w := by
  refine wpIn_rangeFunc (fun fn hfn => ?_)
  rw [hro]
  have hL : (w.alloc (.loop (recC fn a.tmps ps assign body r₀.defers .ready none))).heap[w.heap.size]? = some (.loop (recC fn a.tmps ps assign body r₀.defers .ready none)) := World.alloc_heap_new w _
  have hz : (w.alloc (.loop (recC fn a.tmps ps assign body r₀.defers .ready none))).heap.size = w.heap.size + 1 := by simp
  have hi : I [] (w.alloc (.loop (recC fn a.tmps ps assign body r₀.defers .ready none))) := hI.alloc _ h0
  have hb1 : Below w0.heap.size w0 (w.alloc (.loop (recC fn a.tmps ps assign body r₀.defers .ready none))) := hb0.alloc hb0.size _
  refine ⟨w.heap.size, [], w.alloc (.loop (recC fn a.tmps ps assign body r₀.defers .ready none)), { target := .fn (.func gf) lb, args := #[.func (.yield w.heap.size) #[] #[]] },
    w.alloc (.loop (recC fn a.tmps ps assign body r₀.defers .ready none)), gf, #[.func (.yield w.heap.size) #[] #[]] ++ lb, w.alloc (.loop (recC fn a.tmps ps assign body r₀.defers .ready none)), ?_, ?_, ?_, ?_, fun _ => h1, ?_⟩
  · exact run_enterLoop_inner hl₀ _ _ _ _ _
  · simp only [resolve, hg]; simp [go_sem]
  · intro f' hf'; simp [Target.leads] at hf'; subst hf'; exact hFg
  · simp [invoke, go_sem, eg]
  · generalize hW1 : w.alloc (.loop (recC fn a.tmps ps assign body r₀.defers .ready none)) = W1 at hL hz hi hb1
    have hle : w.heap.size ≤ W1.heap.size := by omega
    refine (hseq w.heap.size
      (fun pre W => I pre W ∧ W.heap[w.heap.size]? = some (.loop (recC fn a.tmps ps assign body r₀.defers .ready none)))
      (fun pre W => ∃ c, Ix c pre W ∧ W.heap[w.heap.size]? = some (.loop (recC fn a.tmps ps assign body r₀.defers .done (some c))))
      W1 hb1
      (fun s X Y row hs hg' hr => ⟨own_later hI hle s X Y row hs.1 hg' hr, grown_later hg' hr (by omega) hs.2⟩)
      (fun s X Y row hs hg' hr => let ⟨c, h1, h2⟩ := hs; ⟨c, own_later (hIx c) hle s X Y row h1 hg' hr, grown_later hg' hr (by omega) h2⟩)
      (fun pre x W hj hlen => YieldAt.mono (yieldC (Kp := Kp) (l := w.heap.size) hfn (hps x) (Nat.le_refl _) (fun h k => hKt h k) hKb hI hIx hj.1 hj.2 (hassign _ x W) (fun W' hr hi' => hbody _ pre x W' (Nat.le_refl _) hr hi' hlen)) ?_) ⟨hi, hL⟩).mono ?_
    · rintro e W' (⟨he, ⟨h2, h3, h4⟩, h5⟩ | ⟨he, c, h2, h3, h4⟩)
      · exact .inl ⟨he, ⟨h2, h3⟩, h5, ⟨h4.size, fun k o hk ho hc => h4.same k o (by omega) (by omega) ho hc⟩⟩
      · exact .inr ⟨he, ⟨c, h2, h3⟩, ⟨h4.size, fun k o hk ho hc => h4.same k o (by omega) (by omega) ho hc⟩⟩
    · rintro e W2 ⟨⟨v, rfl⟩, (⟨xs, hS, hi, hl⟩ | ⟨pre, hSp, c, hi, hl⟩)⟩
      · exact ⟨none, _, run_endLoop (P := P) hl (by simp [recC]), hdone xs _ hS (hI.putObj _ hi (Nat.le_refl _) hl rfl)⟩
      · exact ⟨some c, _, run_endLoop (P := P) hl (by simp [recC]), hstop c pre _ hSp ((hIx c).putObj _ hi (Nat.le_refl _) hl rfl)⟩
end
end Go.Proofs.YtlbfbkdcjdeagaaGreatDoor

/-
  utf.Runes, walked; what is gathered in a box.
-/
namespace Go.Proofs.YtlbfbkdcjdeagaaGreatDoor
open Go.RowKit Go.Shelf
attribute [local go_sem] Oper.semAt_some

theorem Own.kept1 {w w' : World} {base : Nat} {e : TypeId} {s : Nat} {A : Option Addr} {n c : Nat} {cs : List (List Value)} {row : Option Nat} (h : Own w base e s A n c cs) (hg : w.grownBy w' row) (hr : ∀ r, row = some r → ∃ o : Obj, w.heap[r]? = some o ∧ o.isCells = false) : Own w' base e s A n c cs := by
  refine h.keep fun a ha => ?_
  have hl := (h.lt a ha).2
  refine hg.block _ hl fun e => ?_
  obtain ⟨o, h1, h2⟩ := hr _ e.symm
  rcases h.2.2.2 with ⟨h0, _⟩ | ⟨g, cap, cur, hv, _, hh, _⟩
  · injection h0 with h0; rw [ha] at h0; cases h0
  · injection hv with hv
    rw [ha] at hv
    injection hv with hv
    subst hv
    rw [hh] at h1
    cases h1
    cases h2
/-- What is gathered in a box: a row of the call's own; nothing else has turned. -/
def Gat (w0 : World) (ab : Nat) (vt e : TypeId) (cs : List (List Value)) (W : World) : Prop :=
  ∃ A n c, Blk W ab vt #[.slice A n c] ∧ Own W w0.heap.size e 1 A n c cs ∧ w0.grownBy W (some ab)
theorem Gat.own {α : Type} {w0 : World} {ab B : Nat} {vt e : TypeId} {f : List α → List (List Value)} (hB : w0.heap.size ≤ B) : OwnFrom B (fun (pre : List α) W => Gat w0 ab vt e (f pre) W) := fun pre X Y row hs hg hr => by
  obtain ⟨A, n, c, h1, h2, h3⟩ := hs
  refine ⟨A, n, c, h1.kept hg (fun r e => (hr r e).2), h2.kept1 hg (fun r e => (hr r e).2), ⟨hg.os.trans h3.os, hg.tape.trans h3.tape, hg.output.trans h3.output, Nat.le_trans h3.size hg.size, fun k hk hne => ?_⟩⟩
  refine (hg.block k (Nat.lt_of_lt_of_le hk h3.size) (fun e => ?_)).trans (h3.block k hk hne)
  have := (hr k e.symm).1
  omega
/-- One step of gathering: the row has grown in V (behind W), then the box is written. -/
theorem Gat.step {w0 W V : World} {ab : Nat} {vt e : TypeId} {A A3 : Option Addr} {n c n3 c3 : Nat} {cs cs3 : List (List Value)} (hab : ab < w0.heap.size) (hB : Blk W ab vt #[.slice A n c]) (ho : Own W w0.heap.size e 1 A n c cs) (hg : w0.grownBy W (some ab))
    (hV : W.grownBy V (A.map (·.block))) (ho3 : Own V w0.heap.size e 1 A3 n3 c3 cs3) :
    KeepsFrom w0.heap.size W (V.setCell ⟨ab, 0, none⟩ (.slice A3 n3 c3)) ∧ KeepsWalks W (V.setCell ⟨ab, 0, none⟩ (.slice A3 n3 c3)) ∧ Gat w0 ab vt e cs3 (V.setCell ⟨ab, 0, none⟩ (.slice A3 n3 c3)) := by
  have hzW := hg.size
  have hA := ho.lt
  have hrow : ∀ (j : Nat) (o : Obj), A.map (·.block) = some j → W.heap[j]? = some o → o.isCells = true := fun j o hj hoo => by
    cases A with
    | none => simp at hj
    | some q =>
      simp at hj; subst hj
      rcases ho.2.2.2 with ⟨h0, _⟩ | ⟨g, cap, cur, hv, _, hh, _⟩
      · injection h0 with h0; cases h0
      · injection hv with hv
        injection hv with hv
        subst hv
        rw [hh] at hoo
        cases hoo; rfl
  have hkk := (KeepsOthers.of_grownBy hV hrow).trans (KeepsOthers.setCell V ⟨ab, 0, none⟩ (.slice A3 n3 c3))
  have hge : ∀ q, A.map (·.block) = some q → w0.heap.size ≤ q := fun q hq => by
    cases A with
    | none => simp at hq
    | some z => have := (hA z rfl).1; simp at hq; omega
  have hblk : ∀ k, k < w0.heap.size → V.heap[k]? = W.heap[k]? := fun k hk => hV.block k (by omega) (fun e => by have := hge k e.symm; omega)
  have hz3 : W.heap.size ≤ V.heap.size := hV.size
  have hB3 : Blk V ab vt #[.slice A n c] := (hblk ab hab).trans hB
  refine ⟨hkk.from _, hkk.walks, A3, n3, c3, hB3.set_ 0 _, ho3.keep (fun q hq => Below.heap_setCell V ⟨ab, 0, none⟩ _ _ (by have := (ho3.lt q hq).1; simp only; omega)), ?_⟩
  refine ⟨hV.os.trans hg.os, hV.tape.trans hg.tape, hV.output.trans hg.output, by simpa [World.setCell] using Nat.le_trans hzW hz3, fun k hk hne => ?_⟩
  exact (Below.heap_setCell V ⟨ab, 0, none⟩ _ k (fun e => hne (by rw [e]))).trans ((hblk k hk).trans (hg.block k hk hne))
/-- A rune's number as a list's item. -/
def encRu (x : Nat × Nat × Nat) : List Value := [.int .i32 (x.1 : Nat)]
theorem infoI32 : (Tryz.prog.info? 21).map (fun i => (i.zero, i.size, i.bytes)) = some (some (.int .i32 0), 1, 4) := by kernel_rfl
set_option maxRecDepth 100000 in
set_option maxHeartbeats 4000000 in
theorem eRunes_any (s : ByteArray) (w : World) (hs : s.size ≤ 1000000) : Calls Tryz.prog 41 #[.string s] w fun e w' => ∃ A n c, e = .returned (.slice A n c) ∧ Own w' w.heap.size 21 1 A n c ((runesP s).map encRu) ∧ RowKit.Below w.heap.size w w' := by
  have HB : RowKit.Below w.heap.size w (w.alloc (.cells #[.slice none 0 0] 53)) := (RowKit.Below.refl _ _).alloc (Nat.le_refl _) _
  have B0 : Blk (w.alloc (.cells #[.slice none 0 0] 53)) w.heap.size 53 #[.slice none 0 0] := Blk.new _ _ _
  refine (callsIn_wide (n := 6)).1 ?_
  refine callsIn_of_wp_marks Tryz.func41 rfl trivial ?_ rfl
  simp only [Tryz.ntmps41, List.size_toArray, List.length_cons, List.length_nil, Nat.reduceAdd, Nat.reduceSub, Array.replicate_succ, Array.replicate_zero, List.push_toArray, List.append_toArray, List.nil_append, List.cons_append]
  refine wpIn_wide.2 ?_
  go_wp2_with fail
  generalize (w.alloc (.cells #[.slice none 0 0] 53)) = w0 at HB B0 ⊢
  refine (uEach_any s w0).mono ?_
  rintro e w1 ⟨bs, rfl, hc, hb⟩
  have B1 := B0.below hb
  have hzb : w.heap.size < w1.heap.size := B1.lt
  replace HB := below_two HB hb
  have hrl := runesP_len s
  clear B0 hb
  go_wp2_with fail
  refine (wpIn_wide (n := 6)).1 ?_
  refine rngH rfl (by decide) (gf := 115) (lb := #[.pointer (some ⟨bs, 0, none⟩)]) rfl trivial (enters_of Tryz.func115 (by kernel_rfl) rfl)
    (uEach_stops 5 (by decide) w1 s bs hc) (fun h k => h.trans k) walksK_b (RowKit.Below.refl _ _) (fun _ => rfl) (fun _ => KeepsWalks.refl _)
    (fun (pre : List (Nat × Nat × Nat)) W => Gat w1 w.heap.size 53 21 (pre.map encRu) W) (fun _ _ _ => False) (Gat.own (f := fun (pre : List (Nat × Nat × Nat)) => pre.map encRu) (Nat.le_refl _)) (fun _ _ _ _ _ hs _ _ => hs)
    ⟨none, 0, 0, B1, Own.nil_ _ _ _ _, only_refl _ _⟩
    (fun T x => ((T.setIfInBounds 8 (.int .i64 (x.2.1 : Nat))).setIfInBounds 9 (.int .i32 (x.1 : Nat))).setIfInBounds 5 (.int .i32 (x.1 : Nat))) ?assign ?body ?done ?stop
  case assign =>
    intro l2 x V K hK
    simp only [List.setIfInBounds_toArray, List.set_cons_succ, List.set_cons_zero] at hK
    simp only [encU]
    gi_wp2
    exact hK
  case stop =>
    rintro D cc pre W _ hp h _
    exact absurd h id
  case body =>
    rintro l2 pre ⟨r, pp, qq⟩ W hl2 _ ⟨A9, n9, c9, BaW, oW, hgW⟩ hlen
    simp only [List.setIfInBounds_toArray, List.set_cons_succ, List.set_cons_zero]
    obtain ⟨i0, hi0, hz0, hz1, hz2⟩ := info_parts infoI32
    have hl9 : pre.length = n9 := by have h1 := oW.len; simpa using h1
    have hn9 : n9 ≤ 1000000 := by omega
    have c10 := BaW.cell 0
    simp only [List.getElem?_toArray, List.getElem?_cons_zero] at c10
    have hzW := hgW.size
    have hA9 := oW.lt
    have f10 := BaW.frozen 0
    clear hl9 hlen
    gi_wp2_with (gi_at_builtin; go_must (refine wpListIn_app rfl (.tmp 10) (.tmp 12) _ rfl w1.heap.size 21 i0 _ 1 4 Tryz.underlying53 hi0 hz0 hz1 hz2 rfl (by omega) A9 n9 c9 (pre.map encRu) rfl (oW.alloc _) _ 1 1 [[.int .i32 (r : Nat)]] rfl rfl (Rd.newAt (by simp) rfl) (fun y hy => by rw [List.mem_singleton] at hy; subst hy; exact ⟨rfl, by simp [Value.oneCell']⟩) (by unfold maxLen; omega) (by omega) (by simp; omega) ?_); intro A3 c3 w3 ho3 hg3 hA3; have B3 := (BaW.alloc (.cells #[.int .i32 (r : Nat)] 21)).grown hg3 (fun e => by cases A9 with | none => simp at e | some q => have := (hA9 q rfl).1; simp at e; omega); have f3 := B3.frozen 0; have c3b := B3.cell 0; simp only [List.getElem?_toArray, List.getElem?_cons_zero] at c3b)
    have hV : W.grownBy w3 (A9.map (·.block)) := only_trans (only_alloc (only_refl W _) _) hg3
    obtain ⟨k1, k2, k3⟩ := Gat.step hzb BaW oW hgW hV ho3
    exact ⟨k1, k2, by show Gat _ _ _ _ (List.map encRu _) _; rw [List.map_append]; exact k3⟩
  case done =>
    rintro D ys V hD hys ⟨A, n, c, B, ho, hg⟩ hK
    have c10 := B.cell 0
    simp only [List.getElem?_toArray, List.getElem?_cons_zero] at c10
    have hys2 : ys.map encRu = (runesP s).map encRu := by rw [hys]
    rw [hys2] at ho
    go_wp2
    refine ⟨by simp, .inl ⟨_, _, rfl, run_takeDeferred hK, ?_⟩⟩
    refine ⟨_, results_tmp rfl _ _ _, A, n, c, rfl, (ho.keep fun a ha => World.putObj_heap_other (fun e => ?_)).more (by omega), ?_⟩
    · rcases ho.2.2.2 with ⟨h0, _⟩ | ⟨g, cap, cur, hv, _, hh, _⟩
      · injection h0 with h0; rw [h0] at ha; cases ha
      · injection hv with hv
        rw [hv] at ha
        injection ha with ha
        subst ha
        simp only at e
        subst e
        rw [hh] at hK
        cases hK
    · exact (HB.trans (below_only (B := w.heap.size) hg (by omega) (Nat.le_refl _))).trans (belowK_b (w := w) (Nat.le_refl _) _ D _ _ (by omega) hK rfl rfl)
end Go.Proofs.YtlbfbkdcjdeagaaGreatDoor

/-
  runes.Each: the iterator over a set's runes.
-/
namespace Go.Proofs.YtlbfbkdcjdeagaaGreatDoor
open Go.RowKit Go.Shelf
attribute [local go_sem] Oper.semAt_some

/-- The runes of one range; of a list of ranges. -/
def spanR (lo : Int) (n : Nat) : List Int := (List.range n).map fun (i : Nat) => lo + (i : Int)
def eachL (L : List (Int × Int)) : List Int := L.flatMap fun x => spanR x.1 (x.2 - x.1 + 1).toNat
theorem spanR_succ (lo : Int) (n : Nat) : spanR lo (n + 1) = spanR lo n ++ [lo + (n : Int)] := by unfold spanR; rw [List.range_succ, List.map_append]; rfl
theorem spanR_prefix (lo : Int) {j n : Nat} (h : j ≤ n) : spanR lo j <+: spanR lo n := by
  obtain ⟨k, rfl⟩ := Nat.exists_eq_add_of_le h
  induction k with
  | zero => exact List.prefix_refl _
  | succ k ih => rw [← Nat.add_assoc, spanR_succ]; exact (ih (by omega)).trans (List.prefix_append _ _)
theorem eachL_take {L : List (Int × Int)} {i : Nat} {x : Int × Int} (h : L[i]? = some x) : eachL (L.take (i + 1)) = eachL (L.take i) ++ spanR x.1 (x.2 - x.1 + 1).toNat := by
  unfold eachL; rw [List.take_add_one, h, Option.toList_some, List.flatMap_append]; simp
theorem eachL_prefix {L : List (Int × Int)} {i j : Nat} {x : Int × Int} (h : L[i]? = some x) (hj : j ≤ (x.2 - x.1 + 1).toNat) : eachL (L.take i) ++ spanR x.1 j <+: eachL L := by
  have h1 : eachL (L.take i) ++ spanR x.1 j <+: eachL (L.take (i + 1)) := by rw [eachL_take h]; exact (List.prefix_append_right_inj _).2 (spanR_prefix _ hj)
  refine h1.trans ?_
  refine ⟨eachL (L.drop (i + 1)), ?_⟩
  unfold eachL
  rw [← List.flatMap_append, List.take_append_drop]
/-- Cells from block m on stand as they stood, but for the blocks of X. -/
structure KC (m : Nat) (X : Nat → Prop) (W W' : World) : Prop where
  size : W.heap.size ≤ W'.heap.size
  same : ∀ (k : Nat) (o : Obj), m ≤ k → ¬ X k → W.heap[k]? = some o → o.isCells = true → W'.heap[k]? = some o
  walks : KeepsWalks W W'
theorem KC.refl (m : Nat) (X : Nat → Prop) (W : World) : KC m X W W := ⟨Nat.le_refl _, fun _ _ _ _ h _ => h, KeepsWalks.refl _⟩
theorem KC.trans {m : Nat} {X : Nat → Prop} {A B C : World} (h : KC m X A B) (k : KC m X B C) : KC m X A C :=
  ⟨Nat.le_trans h.size k.size, fun i o hm hx ho hc => k.same i o hm hx (h.same i o hm hx ho hc) hc, h.walks.trans k.walks⟩
theorem KC.put {m : Nat} {X : Nat → Prop} (W : World) (l : Nat) (o o' : Obj) (h : W.heap[l]? = some o) (hc : o.isCells = false) (hw : o.isWalk = false) : KC m X W (W.putObj l o') :=
  ⟨by simp, fun k o2 _ _ hk hk2 => by
    by_cases e : k = l
    · subst e; rw [h] at hk; cases hk; rw [hc] at hk2; cases hk2
    · exact (World.putObj_heap_other e).trans hk, KeepsWalks.putObj o' h hw⟩
theorem KC.blk {m : Nat} {X : Nat → Prop} {W W' : World} (h : KC m X W W') {g : Nat} {t : TypeId} {cs : Array Value} (hB : Blk W g t cs) (hm : m ≤ g) (hx : ¬ X g) : Blk W' g t cs := h.same g _ hm hx hB rfl
theorem KC.cell {m : Nat} {X : Nat → Prop} {W W' : World} (h : KC m X W W') {b i : Nat} {v : Value} (hv : W.cell? ⟨b, i, none⟩ = some v) (hm : m ≤ b) (hx : ¬ X b) : W'.cell? ⟨b, i, none⟩ = some v := by
  cases ho : W.heap[b]? with
  | none => unfold World.cell? at hv; rw [ho] at hv; cases hv
  | some o =>
    cases hc : o.isCells with
    | true => exact (World.cell?_of_block ((h.same b o hm hx ho hc).trans ho.symm)).trans hv
    | false => unfold World.cell? at hv; rw [ho] at hv; cases o <;> simp_all [Obj.isCells]
theorem KC.rd {m : Nat} {X : Nat → Prop} {w w' : World} {s : Nat} {A : Option Addr} {cs : List (List Value)} (h : KC m X w w') (hr : Rd w s A cs) (hA : ∀ a, A = some a → m ≤ a.block ∧ ¬ X a.block) : Rd w' s A cs :=
  hr.keep fun b off _ _ ha hp => h.cell hp (hA ⟨b, off, none⟩ ha).1 (hA ⟨b, off, none⟩ ha).2

/-- What the iterator's box holds; m: where its blocks begin. -/
def EachIt (w : World) (L : List (Int × Int)) (m bx : Nat) : Prop :=
  ∃ A na ca, w.cell? ⟨bx, 0, none⟩ = some (.slice A na ca) ∧ Rd w 2 A (L.map encR) ∧ L.length = na ∧ na ≤ 4000000 ∧ m ≤ bx ∧ ∀ a, A = some a → m ≤ a.block ∧ a.block < w.heap.size
end Go.Proofs.YtlbfbkdcjdeagaaGreatDoor

/-
  WHAT AN ITERATOR NEEDS TO BE KEPT while it goes over a list of its own: the blocks of one element type. No program in sight.
-/
namespace Go.Proofs.YtlbfbkdcjdeagaaGreatDoor
open Go Go.RowKit

/-- The blocks of the element type t stand as they stood, but for those of X. -/
def KT (t : TypeId) (X : Nat → Prop) (W W' : World) : Prop := W.heap.size ≤ W'.heap.size ∧ ∀ (k : Nat) (cur : Array Value) (fz : Nat × Nat), ¬ X k → W.heap[k]? = some (.cells cur t fz) → W'.heap[k]? = some (.cells cur t fz)
/-- A list's number, by its place. -/
theorem Rd.atQ {w : World} {A : Option Addr} {l : List Nat} {k x : Nat} (h : Rd w 1 A (l.map fun a => [.int .i64 (a : Nat)])) (hk : l[k]? = some x) : ∃ b off, A = some ⟨b, off, none⟩ ∧ w.cell? ⟨b, off + k, none⟩ = some (.int .i64 (x : Nat)) := by
  obtain ⟨b, off, rfl, hc⟩ := h (by intro e; have := congrArg List.length e; rw [List.length_map] at this; have h2 := (List.getElem?_eq_some_iff.1 hk).1; simp at this; rw [this] at h2; simp at h2)
  have h0 := hc k 0 [.int .i64 (x : Nat)] (.int .i64 (x : Nat)) (by simp [hk]) rfl
  refine ⟨b, off, rfl, ?_⟩
  simpa using h0
/-- A list that was just laid. -/
theorem Rd.manyQ (W : World) (t : TypeId) (s : Nat) (cs : List (List Value)) (arr : Array Value) (harr : arr = cs.flatten.toArray) (h : ∀ x ∈ cs, x.length = s) : Rd (W.alloc (.cells arr t)) s (some ⟨W.heap.size, 0, none⟩) cs := fun _ =>
  ⟨W.heap.size, 0, rfl, fun k j x u hx hu => by
    subst harr
    rw [(Blk.new W t cs.flatten.toArray).cell (0 + k * s + j), List.getElem?_toArray, Nat.zero_add]
    exact flatten_get h hx hu⟩
theorem kcQ_setCell {m : Nat} {X : Nat → Prop} {A B : World} (h : KC m X A B) {p : Addr} (hp : p.block < m ∨ X p.block) (u : Value) : KC m X A (B.setCell p u) :=
  ⟨by simpa [World.setCell] using h.size, fun k o hm hx ho hc => (Below.heap_setCell B p u k (by
    rintro rfl
    rcases hp with hp | hp
    · omega
    · exact hx hp)).trans (h.same k o hm hx ho hc), h.walks.trans (KeepsWalks.setCell B p u)⟩
theorem kcQ_below {m : Nat} {X : Nat → Prop} {A B : World} (h : Below A.heap.size A B) : KC m X A B :=
  ⟨h.size, fun k _ _ _ hk _ => (h.block k (Array.getElem?_eq_some_iff.1 hk).1).trans hk, ⟨h.size, fun k _ hk _ => (h.block k (Array.getElem?_eq_some_iff.1 hk).1).trans hk⟩⟩
section
variable {t : TypeId} {X : Nat → Prop} {A B C : World}
theorem KT.refl (t : TypeId) (X : Nat → Prop) (W : World) : KT t X W W := ⟨Nat.le_refl _, fun _ _ _ _ h => h⟩
theorem KT.trans (h : KT t X A B) (k : KT t X B C) : KT t X A C := ⟨Nat.le_trans h.1 k.1, fun i c z hx hc => k.2 i c z hx (h.2 i c z hx hc)⟩
theorem KT.of_kc (h : KC 0 X A B) : KT t X A B := ⟨h.size, fun k _ _ hx hk => h.same k _ (Nat.zero_le _) hx hk rfl⟩
theorem KT.put (W : World) (l : Nat) (o o' : Obj) (h : W.heap[l]? = some o) (hc : o.isCells = false) : KT t X W (W.putObj l o') :=
  ⟨by simp, fun k c z _ hk => by
    by_cases e : k = l
    · subst e; rw [h] at hk; cases hk; cases hc
    · exact (World.putObj_heap_other e).trans hk⟩
theorem KT.below (h : Below A.heap.size A B) : KT t X A B := ⟨h.size, fun k _ _ _ hk => (h.block k (Array.getElem?_eq_some_iff.1 hk).1).trans hk⟩
theorem KT.own {base : Nat} {s : Nat} {P : Option Addr} {n c : Nat} {cs : List (List Value)} (h : KT t X A B) (ho : Own A base t s P n c cs) (hX : ∀ b, X b → b < base) : Own B base t s P n c cs := by
  refine ho.keep fun a ha => ?_
  rcases ho.2.2.2 with ⟨h0, _⟩ | ⟨g, cap, cur, hv, hg, hh, _⟩
  · injection h0 with h0; rw [h0] at ha; cases ha
  · injection hv with hv
    rw [hv] at ha
    injection ha with ha
    subst ha
    exact (h.2 _ _ _ (fun hx => by have := hX _ hx; omega) hh).trans hh.symm
theorem KT.blk (h : KT t X A B) {g : Nat} {cs : Array Value} (hB : Blk A g t cs) (hx : ¬ X g) : Blk B g t cs := h.2 g cs (0, 0) hx hB
theorem KT.setCell {b : Nat} {t' : TypeId} {cs : Array Value} (hB : Blk A b t' cs) (ht : t' ≠ t) (i : Nat) (u : Value) : KT t X A (A.setCell ⟨b, i, none⟩ u) :=
  ⟨by simp [World.setCell], fun k cur fz _ hk => (Below.heap_setCell A ⟨b, i, none⟩ u k (fun e => by
    subst e
    have h2 : A.heap[k]? = some _ := hB
    rw [h2] at hk
    injection hk with hk
    injection hk with _ hk
    exact ht hk)).trans hk⟩
/-- A step of gathering, in a box and a row of other types. -/
theorem Gat.stepT {w0 W V : World} {ab : Nat} {vt e : TypeId} {P : Option Addr} {n c : Nat} {cs : List (List Value)} (he : e ≠ t) (hv : vt ≠ t) (hB : Blk W ab vt #[.slice P n c]) (ho : Own W w0.heap.size e 1 P n c cs) (hV : W.grownBy V (P.map (·.block))) (x : Value) :
    KT t X W (V.setCell ⟨ab, 0, none⟩ x) := by
  refine ⟨by simpa [World.setCell] using hV.size, fun k cur fz _ hk => ?_⟩
  have h1 : k ≠ ab := fun e => by
    subst e
    have h2 : W.heap[k]? = some _ := hB
    rw [h2] at hk
    injection hk with hk
    injection hk with _ hk
    exact hv hk
  refine (Below.heap_setCell V ⟨ab, 0, none⟩ _ k h1).trans ((hV.block k (Array.getElem?_eq_some_iff.1 hk).1 (fun e2 => ?_)).trans hk)
  rcases ho.2.2.2 with ⟨h0, _⟩ | ⟨g, cap, cur2, hv2, _, hh, _⟩
  · injection h0 with h0; rw [h0] at e2; cases e2
  · injection hv2 with hv2
    rw [hv2] at e2
    injection e2 with e2
    simp only at e2
    subst e2
    rw [hh] at hk
    injection hk with hk
    injection hk with _ hk
    exact he hk
end
end Go.Proofs.YtlbfbkdcjdeagaaGreatDoor

/-
  PLAIN: letters: where a text is cut by the classes of its runes; what is never cut; a text's beginning. No walk.
-/
namespace Go.Proofs.YtlbfbkdcjdeagaaGreatDoor

def endG (c : Nat) : Bool := c == 1 || c == 2 || c == 3
/-- Two classes side by side that are never parted. -/
def joinG (x y : Nat) : Bool :=
  if x = 1 ∧ y = 2 then true
  else if endG x || endG y then false
  else if y == 4 || y == 5 || y == 6 || x == 7 then true
  else if x = 8 then y == 8 || y == 9 || y == 11
  else if x = 9 ∨ x = 11 then y == 9 || y == 10
  else x == 10 && y == 10
/-- What is known ahead of a rune. -/
structure GS where
  prev : Nat
  pict : Bool
  joined : Bool
  flags : Nat
def GS.cut (st : GS) (y : Nat) : Bool := !(joinG st.prev y || st.joined && y == 12 || y == 13 && st.flags % 2 == 1)
def GS.next (st : GS) (y : Nat) : GS := ⟨y, y == 12 || st.pict && y == 4, st.pict && y == 5, if y = 13 then st.flags + 1 else 0⟩
def GS.first (y : Nat) : GS := ⟨y, y == 12, false, if y = 13 then 1 else 0⟩
def cutSt : GS → List Nat → List Bool
  | _, [] => []
  | st, y :: r => st.cut y :: cutSt (st.next y) r
/-- Ahead of which runes a text is cut. -/
def cutsG : List Nat → List Bool
  | [] => []
  | y :: r => true :: cutSt (GS.first y) r
def stOf : GS → List Nat → GS
  | st, [] => st
  | st, y :: r => stOf (st.next y) r
theorem stOf_snoc : ∀ (st : GS) (l : List Nat) (y : Nat), stOf st (l ++ [y]) = (stOf st l).next y
  | _, [], _ => rfl
  | st, z :: l, y => stOf_snoc (st.next z) l y
theorem cutSt_snoc : ∀ (st : GS) (l : List Nat) (y : Nat), cutSt st (l ++ [y]) = cutSt st l ++ [(stOf st l).cut y]
  | _, [], _ => rfl
  | st, z :: l, y => by rw [List.cons_append, cutSt, cutSt_snoc (st.next z) l y]; rfl
theorem cutSt_len : ∀ (st : GS) (l : List Nat), (cutSt st l).length = l.length
  | _, [] => rfl
  | st, y :: r => by rw [cutSt, List.length_cons, cutSt_len (st.next y) r, List.length_cons]
theorem cutsG_len (l : List Nat) : (cutsG l).length = l.length := by
  cases l with
  | nil => rfl
  | cons y r => rw [cutsG, List.length_cons, cutSt_len, List.length_cons]
theorem cutSt_take : ∀ (st : GS) (l : List Nat) (k : Nat), cutSt st (l.take k) = (cutSt st l).take k
  | _, [], k => by simp [cutSt]
  | st, y :: r, 0 => by simp [cutSt]
  | st, y :: r, k + 1 => by rw [List.take_succ_cons, cutSt, cutSt, List.take_succ_cons, cutSt_take (st.next y) r k]
theorem cutsG_take (l : List Nat) (k : Nat) : cutsG (l.take k) = (cutsG l).take k := by
  cases l with
  | nil => simp [cutsG]
  | cons y r =>
    cases k with
    | zero => simp [cutsG]
    | succ k => rw [List.take_succ_cons, cutsG, cutsG, List.take_succ_cons, cutSt_take]
/-- What the state keeps. -/
structure GS.Good (st : GS) : Prop where
  joined : st.joined = true → st.prev = 5
  flags : st.flags ≠ 0 → st.prev = 13
theorem GS.first_good (y : Nat) : (GS.first y).Good := ⟨fun h => by simp [GS.first] at h, fun h => by unfold GS.first at h ⊢; simp only at h ⊢; split at h; assumption; exact absurd rfl h⟩
theorem GS.next_good (st : GS) (y : Nat) : (st.next y).Good := ⟨fun h => by simp [GS.next] at h ⊢; exact h.2, fun h => by unfold GS.next at h ⊢; simp only at h ⊢; split at h; assumption; exact absurd rfl h⟩
theorem stOf_good : ∀ {st : GS} (l : List Nat), st.Good → (stOf st l).Good
  | _, [], h => h
  | st, y :: r, _ => stOf_good r (GS.next_good st y)
theorem stOf_prev : ∀ (st : GS) (l : List Nat), (stOf st l).prev = (l.getLast?).getD st.prev
  | _, [] => rfl
  | st, [y] => rfl
  | st, y :: z :: r => by
    have := stOf_prev (st.next y) (z :: r)
    rw [stOf, this, List.getLast?_cons_cons]
    cases h : (z :: r).getLast? with
    | none => simp at h
    | some x => rfl
theorem cutSt_at : ∀ (st : GS) (l : List Nat) (k : Nat) (y : Nat), l[k]? = some y → (cutSt st l)[k]? = some ((stOf st (l.take k)).cut y)
  | _, [], _, _, h => by simp at h
  | st, z :: l, 0, y, h => by simp at h; subst h; rfl
  | st, z :: l, k + 1, y, h => by
    rw [List.getElem?_cons_succ] at h
    rw [cutSt, List.getElem?_cons_succ, cutSt_at (st.next z) l k y h]; rfl
/-- Ahead of a rune behind another one: a state that knows the class of that. -/
theorem cutsG_at {l : List Nat} {k p y : Nat} (hp : l[k]? = some p) (hy : l[k + 1]? = some y) : ∃ st : GS, st.Good ∧ st.prev = p ∧ (cutsG l)[k + 1]? = some (st.cut y) := by
  cases l with
  | nil => simp at hp
  | cons z l =>
    rw [List.getElem?_cons_succ] at hy
    refine ⟨stOf (GS.first z) (l.take k), stOf_good _ (GS.first_good z), ?_, by rw [cutsG, List.getElem?_cons_succ, cutSt_at _ _ _ _ hy]⟩
    rw [stOf_prev]
    cases k with
    | zero => simp at hp; subst hp; rfl
    | succ k =>
      rw [List.getElem?_cons_succ] at hp
      have hlt := (List.getElem?_eq_some_iff.1 hp).1
      rw [List.getLast?_eq_getElem?, List.length_take, Nat.min_eq_left (by omega), Nat.add_sub_cancel, List.getElem?_take_of_lt (by omega), hp]; rfl
/-- What is never cut. -/
theorem cut_joined {st : GS} {y : Nat} (h : st.prev = 1 ∧ y = 2 ∨ endG st.prev = false ∧ (y = 4 ∨ y = 5 ∨ y = 6)) : st.cut y = false := by
  have : joinG st.prev y = true := by
    rcases h with ⟨h1, h2⟩ | ⟨h1, h2⟩
    · unfold joinG; rw [if_pos ⟨h1, h2⟩]
    · have hy : endG y = false := by rcases h2 with rfl | rfl | rfl <;> rfl
      unfold joinG
      rw [if_neg (by rcases h2 with rfl | rfl | rfl <;> omega), h1, hy, if_neg (by simp)]
      rcases h2 with rfl | rfl | rfl <;> simp
  unfold GS.cut; rw [this]; rfl
/-- What is always cut. -/
theorem cut_always {st : GS} {y : Nat} (hg : st.Good) (h1 : ¬ (st.prev = 1 ∧ y = 2)) (h2 : endG st.prev = true ∨ endG y = true) : st.cut y = true := by
  have hj : joinG st.prev y = false := by
    unfold joinG
    rw [if_neg h1, if_pos (by rcases h2 with h | h <;> rw [h] <;> simp)]
  have ha : (st.joined && y == 12) = false := by
    cases hjn : st.joined with
    | false => rfl
    | true =>
      have hp := hg.joined hjn
      rcases h2 with h | h
      · rw [hp] at h; cases h
      · cases hy : (y == 12) with
        | false => rfl
        | true => rw [beq_iff_eq.1 hy] at h; cases h
  have hb : (y == 13 && st.flags % 2 == 1) = false := by
    cases hy : (y == 13) with
    | false => rfl
    | true =>
      have hy' := beq_iff_eq.1 hy
      cases hf : (st.flags % 2 == 1) with
      | false => rfl
      | true =>
        have := beq_iff_eq.1 hf
        have hp := hg.flags (by omega)
        rcases h2 with h | h
        · rw [hp] at h; cases h
        · rw [hy'] at h; cases h
  unfold GS.cut; rw [hj, ha, hb]; rfl
/-- Where all classes are plain every rune is cut off. -/
theorem cut_plain {st : GS} {y : Nat} (hg : st.Good) (h1 : st.prev = 0 ∨ st.prev = 2 ∨ st.prev = 3) (h2 : y = 0 ∨ y = 2 ∨ y = 3) : st.cut y = true := by
  by_cases he : endG st.prev = true ∨ endG y = true
  · exact cut_always hg (by omega) he
  · have e1 : st.prev = 0 := by
      rcases h1 with h | h | h
      · exact h
      · exact absurd (.inl (by rw [h]; rfl)) he
      · exact absurd (.inl (by rw [h]; rfl)) he
    have e2 : y = 0 := by
      rcases h2 with h | h | h
      · exact h
      · exact absurd (.inr (by rw [h]; rfl)) he
      · exact absurd (.inr (by rw [h]; rfl)) he
    subst e2
    unfold GS.cut; rw [e1]
    cases st.joined <;> rfl

/-- The places of a list of runes at which it is cut. -/
def pickG : List (Nat × Nat × Nat) → List Bool → List Nat
  | x :: r, b :: t => (if b then [x.2.1] else []) ++ pickG r t
  | _, _ => []
def clsG (g : Int → Nat) (r : List (Nat × Nat × Nat)) : List Nat := r.map fun x => g x.1
def startsG (g : Int → Nat) (s : ByteArray) : List Nat := pickG (runesP s) (cutsG (clsG g (runesP s)))
/-- The bounds of a text. -/
def boundsG (g : Int → Nat) (s : ByteArray) : List Nat := if s.size = 0 then [] else startsG g s ++ [s.size]
theorem pickG_snoc : ∀ (r : List (Nat × Nat × Nat)) (t : List Bool) (x : Nat × Nat × Nat) (b : Bool), t.length = r.length → pickG (r ++ [x]) (t ++ [b]) = pickG r t ++ (if b then [x.2.1] else [])
  | [], [], x, b, _ => by simp [pickG]
  | [], _ :: _, _, _, h => by simp at h
  | _ :: _, [], _, _, h => by simp at h
  | y :: r, c :: t, x, b, h => by
    rw [List.cons_append, List.cons_append, pickG, pickG, pickG_snoc r t x b (by simpa using h), List.append_assoc]
theorem pickG_mem : ∀ {r : List (Nat × Nat × Nat)} {t : List Bool} {a : Nat}, a ∈ pickG r t ↔ ∃ (k : Nat) (x : Nat × Nat × Nat), r[k]? = some x ∧ t[k]? = some true ∧ x.2.1 = a
  | [], t, a => by simp [pickG]
  | _ :: _, [], a => by simp [pickG]
  | x :: r, b :: t, a => by
    rw [pickG, List.mem_append, pickG_mem (r := r) (t := t)]
    constructor
    · rintro (h | ⟨k, y, h1, h2, h3⟩)
      · cases b with
        | false => simp at h
        | true => simp at h; exact ⟨0, x, rfl, rfl, h.symm⟩
      · exact ⟨k + 1, y, by simpa using h1, by simpa using h2, h3⟩
    · rintro ⟨k, y, h1, h2, h3⟩
      cases k with
      | zero => simp at h1 h2; subst h1; subst h2; exact .inl (by simp [h3])
      | succ k => exact .inr ⟨k, y, by simpa using h1, by simpa using h2, h3⟩
theorem pickG_take : ∀ (r : List (Nat × Nat × Nat)) (t : List Bool) (z : Nat), r.Pairwise (fun x y => x.2.1 < y.2.1) → pickG (r.takeWhile fun x => decide (x.2.1 < z)) (t.take (r.takeWhile fun x => decide (x.2.1 < z)).length) = (pickG r t).filter fun a => decide (a < z)
  | [], t, z, _ => by simp [pickG]
  | x :: r, [], z, _ => by simp [pickG]
  | x :: r, b :: t, z, h => by
    rw [List.pairwise_cons] at h
    rw [List.takeWhile_cons]
    by_cases hx : x.2.1 < z
    · rw [if_pos (by simpa using hx), List.length_cons, List.take_succ_cons, pickG, pickG, pickG_take r t z h.2, List.filter_append]
      congr 1
      cases b with
      | false => rfl
      | true => simp [hx]
    · rw [if_neg (by simpa using hx)]
      symm
      rw [show pickG [] (List.take ([] : List (Nat × Nat × Nat)).length (b :: t)) = [] by simp [pickG], List.filter_eq_nil_iff]
      intro a ha
      obtain ⟨k, y, h1, _, rfl⟩ := pickG_mem.1 ha
      have : x.2.1 ≤ y.2.1 := by
        cases k with
        | zero => simp at h1; subst h1; exact Nat.le_refl _
        | succ k => rw [List.getElem?_cons_succ] at h1; exact Nat.le_of_lt (h.1 y (List.mem_of_getElem? h1))
      simp; omega

theorem runes_rise (s : ByteArray) : (runesP s).Pairwise fun x y => x.2.1 < y.2.1 := by
  have : ∀ (f a : Nat), (runesGo s f a).Pairwise fun x y => x.2.1 < y.2.1 := by
    intro f
    induction f with
    | zero => intro a; exact .nil
    | succ f ih =>
      intro a
      rw [runesGo]
      split
      · rename_i hlt
        have hd := dec_bd s a hlt
        refine .cons (fun y hy => ?_) (ih _)
        have := runesGo_bd _ _ y hy
        simp only; omega
      · exact .nil
  exact this _ _
theorem clsG_len (g : Int → Nat) (r : List (Nat × Nat × Nat)) : (clsG g r).length = r.length := by simp [clsG]
/-- A text's beginning up to a place where it is cut has the cuts that it had. -/
theorem starts_prefix (g : Int → Nat) (s : ByteArray) {z : Nat} (hz : z ≤ s.size) (h : z = 0 ∨ z = s.size ∨ ∃ x ∈ runesP s, x.2.1 = z) : startsG g (s.extract 0 z) = (startsG g s).filter fun a => decide (a < z) := by
  unfold startsG
  rw [runesP_prefix s hz h, ← pickG_take _ _ _ (runes_rise s), ← cutsG_take]
  congr 1
  unfold clsG
  rw [← List.map_take]
  congr 2
  have := List.takeWhile_prefix (fun x : Nat × Nat × Nat => decide (x.2.1 < z)) (l := runesP s)
  exact (List.prefix_iff_eq_take.1 this)
theorem pick_rise : ∀ {r : List (Nat × Nat × Nat)} {t : List Bool}, (r.Pairwise fun x y => x.2.1 < y.2.1) → (pickG r t).Pairwise (· < ·)
  | [], t, _ => by cases t <;> exact .nil
  | _ :: _, [], _ => .nil
  | x :: r, b :: t, h => by
    rw [List.pairwise_cons] at h
    rw [pickG]
    cases b with
    | false => exact pick_rise h.2
    | true =>
      refine .cons (fun a ha => ?_) (pick_rise h.2)
      obtain ⟨k, y, h1, _, rfl⟩ := pickG_mem.1 ha
      exact h.1 y (List.mem_of_getElem? h1)
theorem starts_rise (g : Int → Nat) (s : ByteArray) : (startsG g s).Pairwise (· < ·) := pick_rise (runes_rise s)
theorem starts_lt (g : Int → Nat) (s : ByteArray) : ∀ a ∈ startsG g s, a < s.size := fun a ha => by
  obtain ⟨k, y, h1, _, rfl⟩ := pickG_mem.1 ha
  have := runesP_bd y (List.mem_of_getElem? h1); omega
theorem starts_at (g : Int → Nat) (s : ByteArray) : ∀ a ∈ startsG g s, ∃ x ∈ runesP s, x.2.1 = a := fun a ha => by
  obtain ⟨k, y, h1, _, h⟩ := pickG_mem.1 ha
  exact ⟨y, List.mem_of_getElem? h1, h⟩
theorem starts_zero (g : Int → Nat) {s : ByteArray} (h : 0 < s.size) : ∃ T, startsG g s = 0 :: T := by
  obtain ⟨k, hk, e⟩ := runesGo_step (s := s) (f := s.size) (a := 0) h (by omega)
  unfold startsG runesP
  rw [e]
  exact ⟨_, rfl⟩
theorem bounds_rise (g : Int → Nat) (s : ByteArray) : (boundsG g s).Pairwise (· < ·) := by
  unfold boundsG
  split
  · exact .nil
  · rw [List.pairwise_append]
    exact ⟨starts_rise g s, by simp, fun a ha b hb => by simp at hb; subst hb; exact starts_lt g s a ha⟩
/-- How many pieces a text has up to its n-th bound: n. -/
theorem bounds_cut (g : Int → Nat) (s : ByteArray) {n z : Nat} (h : (boundsG g s)[n]? = some z) : (boundsG g (s.extract 0 z)).length - 1 = n ∧ z ≤ s.size := by
  unfold boundsG at h
  split at h
  · simp at h
  · rename_i hs
    have hr := starts_rise g s
    have hl := starts_lt g s
    have hcut : z ≤ s.size ∧ (z = 0 ∨ z = s.size ∨ ∃ x ∈ runesP s, x.2.1 = z) ∧ (startsG g s).filter (fun a => decide (a < z)) = (startsG g s).take n ∧ n ≤ (startsG g s).length := by
      rcases Nat.lt_or_ge n (startsG g s).length with hn | hn
      · rw [List.getElem?_append_left hn] at h
        have hm := List.mem_of_getElem? h
        refine ⟨Nat.le_of_lt (hl z hm), .inr (.inr (starts_at g s z hm)), ?_, Nat.le_of_lt hn⟩
        have e : startsG g s = (startsG g s).take n ++ (startsG g s).drop n := (List.take_append_drop n _).symm
        have hp := List.pairwise_iff_getElem.1 hr
        rw [List.getElem?_eq_getElem hn] at h
        injection h with h
        conv => lhs; rw [e]
        rw [List.filter_append]
        have e1 : ((startsG g s).take n).filter (fun a => decide (a < z)) = (startsG g s).take n := by
          rw [List.filter_eq_self]
          intro a ha
          obtain ⟨i, hi, rfl⟩ := List.getElem_of_mem ha
          rw [List.length_take] at hi
          have := hp i n (by omega) hn (by omega)
          rw [List.getElem_take]; simp; omega
        have e2 : ((startsG g s).drop n).filter (fun a => decide (a < z)) = [] := by
          rw [List.filter_eq_nil_iff]
          intro a ha
          obtain ⟨i, hi, rfl⟩ := List.getElem_of_mem ha
          rw [List.length_drop] at hi
          rw [List.getElem_drop]
          rcases Nat.eq_zero_or_pos i with h0 | h0
          · subst h0; simp; omega
          · have := hp n (n + i) hn (by omega) (by omega); simp; omega
        rw [e1, e2, List.append_nil]
      · rw [List.getElem?_append_right hn] at h
        have hn0 : n - (startsG g s).length = 0 := by
          rcases Nat.eq_zero_or_pos (n - (startsG g s).length) with h0 | h0
          · exact h0
          · rw [List.getElem?_eq_none (by simp only [List.length_singleton]; omega)] at h; cases h
        rw [hn0] at h
        simp at h
        subst h
        refine ⟨Nat.le_refl _, .inr (.inl rfl), ?_, by omega⟩
        rw [List.take_of_length_le (by omega), List.filter_eq_self]
        intro a ha; simpa using hl a ha
    obtain ⟨hz, hx, hf, hn⟩ := hcut
    refine ⟨?_, hz⟩
    have hsz : (s.extract 0 z).size = z := by rw [ByteArray.size_extract]; omega
    unfold boundsG
    rw [hsz]
    split
    · rename_i hz0
      subst hz0
      have : (startsG g s).take n = [] := by rw [← hf, List.filter_eq_nil_iff]; simp
      have := congrArg List.length this
      simp only [List.length_take, List.length_nil] at this ⊢; omega
    · rw [starts_prefix g s hz hx, hf, List.length_append, List.length_take, Nat.min_eq_left hn]; simp
end Go.Proofs.YtlbfbkdcjdeagaaGreatDoor

/-
  PLAIN: letters turned; flags by twos; a text of whole runes in pieces. No walk.
-/
namespace Go.Proofs.YtlbfbkdcjdeagaaGreatDoor

/-- Flag letters behind a plain one: cut by twos. -/
theorem flags_two : ∀ n, n ≤ 20 → (cutsG (0 :: List.replicate n 13)).count true = 1 + (n + 1) / 2 := by
  have h : (List.range 21).all (fun n => decide ((cutsG (0 :: List.replicate n 13)).count true = 1 + (n + 1) / 2)) = true := by decide
  intro n hn
  rw [List.all_eq_true] at h
  exact of_decide_eq_true (h n (List.mem_range.2 (by omega)))
theorem pick_len : ∀ (r : List (Nat × Nat × Nat)) (t : List Bool), t.length = r.length → (pickG r t).length = t.count true
  | [], [], _ => rfl
  | [], _ :: _, h => by simp at h
  | _ :: _, [], h => by simp at h
  | x :: r, b :: t, h => by
    rw [pickG, List.length_append, pick_len r t (by simpa using h)]
    cases b with
    | false => simp
    | true => simp; omega
theorem starts_len (g : Int → Nat) (s : ByteArray) : (startsG g s).length = (cutsG (clsG g (runesP s))).count true := pick_len _ _ (by rw [cutsG_len, clsG_len])

/-- The pieces between bounds, the last one first. -/
def turnL (s : ByteArray) : List Nat → List UInt8
  | a :: b :: r => turnL s (b :: r) ++ (s.extract a b).data.toList
  | _ => []
theorem turnL_len (s : ByteArray) : ∀ (l : List Nat), l.Pairwise (· < ·) → (∀ a ∈ l, a ≤ s.size) → (turnL s l).length = l.getLast?.getD 0 - l.head?.getD 0
  | [], _, _ => rfl
  | [a], _, _ => by simp [turnL]
  | a :: b :: r, h, hz => by
    rw [List.pairwise_cons] at h
    have hab := h.1 b (by simp)
    have ih := turnL_len s (b :: r) h.2 (fun c hc => hz c (by simp [hc]))
    have hlast : b ≤ ((b :: r).getLast?).getD 0 := by
      rw [List.getLast?_eq_getElem?]
      have hlt : (b :: r).length - 1 < (b :: r).length := by simp
      rw [List.getElem?_eq_getElem hlt, Option.getD_some]
      rcases Nat.eq_zero_or_pos ((b :: r).length - 1) with h0 | h0
      · have : (b :: r)[(b :: r).length - 1] = b := by
          have : r = [] := List.eq_nil_of_length_eq_zero (by simpa using h0)
          subst this; rfl
        omega
      · exact Nat.le_of_lt (List.pairwise_iff_getElem.1 h.2 0 _ (by simp) hlt h0)
    rw [turnL, List.length_append, ih, extract_len s (hz b (by simp)), List.getLast?_cons_cons]
    simp only [List.head?_cons, Option.getD_some]
    omega
theorem turn_len (g : Int → Nat) (s : ByteArray) : (turnL s (boundsG g s)).length = s.size := by
  have h := turnL_len s (boundsG g s) (bounds_rise g s)
  by_cases hs : s.size = 0
  · unfold boundsG; rw [if_pos hs, hs]; rfl
  · obtain ⟨T, hT⟩ := starts_zero g (s := s) (by omega)
    have hb : boundsG g s = startsG g s ++ [s.size] := by unfold boundsG; rw [if_neg hs]
    rw [h (fun a ha => by
      rw [hb] at ha
      rcases List.mem_append.1 ha with ha | ha
      · exact Nat.le_of_lt (starts_lt g s a ha)
      · simp at ha; omega), hb]
    rw [List.getLast?_append, hT]
    simp

/- Whole runes. -/
/-- Bytes that are one whole rune. -/
def Chunk (c : List UInt8) : Prop := c ≠ [] ∧ (Utf8.decode (bytesOf c) 0).2 = c.length ∧ ((Utf8.decode (bytesOf c) 0).1 ≠ 65533 ∨ c.length = 3)
def chunksOf (s : ByteArray) (r : List (Nat × Nat × Nat)) : List (List UInt8) := r.map fun x => (s.extract x.2.1 x.2.2).data.toList
/-- A text of whole runes is read as these. -/
theorem chunks_go (t : ByteArray) : ∀ (C : List (List UInt8)) (pre : List UInt8) (f : Nat), (∀ c ∈ C, Chunk c) → t.data.toList = pre ++ C.flatten → t.size ≤ pre.length + f →
    chunksOf t (runesGo t f pre.length) = C ∧ (runesGo t f pre.length).map (·.1) = C.map fun c => (Utf8.decode (bytesOf c) 0).1
  | [], pre, f, _, ht, hf => by
    have : t.size = pre.length := by rw [← size_data, ht]; simp
    rw [runesGo_end (by omega)]; exact ⟨rfl, rfl⟩
  | c :: C, pre, f, hC, ht, hf => by
    obtain ⟨h1, h2, h3⟩ := hC c (by simp)
    have h1' : 0 < c.length := List.length_pos_iff.2 h1
    have hz : t.size = pre.length + c.length + C.flatten.length := by
      rw [← size_data, ht, List.flatten_cons, List.length_append, List.length_append]; omega
    obtain ⟨⟨R, W⟩, hD⟩ : ∃ d, Utf8.decode (bytesOf c) 0 = d := ⟨_, rfl⟩
    rw [hD] at h2 h3
    simp only at h2 h3
    subst h2
    have hd : Utf8.decode t pre.length = (R, c.length) := dec_same hD (by omega) h3 (by omega) fun k hk => by
      rw [bytesOf_get, Nat.zero_add, ← Lib.getD_get!' t, ht, List.flatten_cons, List.getD_eq_getElem?_getD, List.getD_eq_getElem?_getD, List.getElem?_append_right (by omega), Nat.add_sub_cancel_left, List.getElem?_append_left hk]
    obtain ⟨g, rfl, hg⟩ := runesGo_step (s := t) (f := f) (a := pre.length) (by omega) hf
    rw [hd] at hg
    simp only at hg
    obtain ⟨i1, i2⟩ := chunks_go t C (pre ++ c) g (fun y hy => hC y (by simp [hy])) (by rw [ht, List.flatten_cons, List.append_assoc]) (by rw [List.length_append]; omega)
    rw [List.length_append] at i1 i2
    have hx : (t.extract pre.length (pre.length + c.length)).data.toList = c := by
      rw [ByteArray.data_extract, Array.toList_extract, List.extract_eq_take_drop, ht, List.drop_left, Nat.add_sub_cancel_left, List.flatten_cons, List.take_left]
    rw [hg]
    unfold chunksOf at i1 ⊢
    rw [List.map_cons, List.map_cons, List.map_cons, i1, i2, hD]
    exact ⟨by rw [hx], rfl⟩
theorem chunks_flat {C : List (List UInt8)} (hC : ∀ c ∈ C, Chunk c) : chunksOf (bytesOf C.flatten) (runesP (bytesOf C.flatten)) = C ∧ (runesP (bytesOf C.flatten)).map (·.1) = C.map fun c => (Utf8.decode (bytesOf c) 0).1 :=
  chunks_go (bytesOf C.flatten) C [] _ hC (by rw [bytesOf_list]; rfl) (by simp)
theorem contig_flat (s : ByteArray) : ∀ (r : List (Nat × Nat × Nat)) (p z : Nat), Contig p r z → z ≤ s.size → (chunksOf s r).flatten = (s.data.toList.drop p).take (z - p)
  | [], p, z, h, _ => by have : p = z := h; subst this; simp [chunksOf]
  | x :: r, p, z, h, hz => by
    obtain ⟨h1, h2, h3⟩ := h
    have hle : ∀ {r : List (Nat × Nat × Nat)} {p z : Nat}, Contig p r z → p ≤ z := by
      intro r
      induction r with
      | nil => intro p z h; have : p = z := h; omega
      | cons y r ih => intro p z h; have := ih h.2.2; have := h.2.1; omega
    have h4 := hle h3
    have ih := contig_flat s r x.2.2 z h3 hz
    unfold chunksOf at ih ⊢
    rw [List.map_cons, List.flatten_cons, ih, h1, ByteArray.data_extract, Array.toList_extract, List.extract_eq_take_drop]
    rw [show z - p = (x.2.2 - p) + (z - x.2.2) by omega, List.take_add, List.drop_drop, show p + (x.2.2 - p) = x.2.2 by omega]
theorem chunks_all (s : ByteArray) : (chunksOf s (runesP s)).flatten = s.data.toList := by
  rw [contig_flat s _ 0 s.size (runesP_contig s) (Nat.le_refl _), List.drop_zero, Nat.sub_zero, List.take_of_length_le (by rw [size_data]; exact Nat.le_refl _)]
/-- Each rune of a valid text is whole. -/
theorem chunk_of {s : ByteArray} {x : Nat × Nat × Nat} (hx : x ∈ runesP s) (hv : x.1 ≠ 65533 ∨ x.2.2 - x.2.1 = 3) : Chunk (s.extract x.2.1 x.2.2).data.toList ∧ (Utf8.decode (bytesOf (s.extract x.2.1 x.2.2).data.toList) 0).1 = x.1 := by
  have hb := runesP_bd x hx
  have hd := runesGo_dec _ _ x hx
  have hl := extract_len s (a := x.2.1) hb.2.1
  have hD : Utf8.decode (bytesOf (s.extract x.2.1 x.2.2).data.toList) 0 = (x.1, x.2.2 - x.2.1) := dec_same hd (by omega) hv (by rw [bytesOf_size, hl]; omega) fun k hk => by
    rw [bytesOf_get, Nat.zero_add, ← Lib.getD_get!' s, ByteArray.data_extract, Array.toList_extract, List.extract_eq_take_drop, List.getD_eq_getElem?_getD, List.getD_eq_getElem?_getD, List.getElem?_take_of_lt hk, List.getElem?_drop]
  refine ⟨⟨fun h => ?_, ?_, ?_⟩, by rw [hD]⟩
  · rw [h] at hl; simp at hl; omega
  · rw [hD, hl]
  · rw [hD, hl]; exact hv
end Go.Proofs.YtlbfbkdcjdeagaaGreatDoor

/-
  Pieces of a text, plain: between bounds, in their order.
-/
namespace Go.Proofs.YtlbfbkdcjdeagaaGreatDoor

/-- The pieces between bounds. -/
def piecesF : List Nat → List (Nat × Nat)
  | a :: b :: r => (a, b) :: piecesF (b :: r)
  | _ => []
theorem piecesF_len : ∀ (L : List Nat), (piecesF L).length = L.length - 1
  | [] => rfl
  | [_] => rfl
  | a :: b :: r => by rw [piecesF, List.length_cons, piecesF_len (b :: r)]; simp
theorem piecesF_at : ∀ (L : List Nat) (k x y : Nat), L[k]? = some x → L[k + 1]? = some y → (piecesF L)[k]? = some (x, y)
  | [], _, _, _, h, _ => by simp at h
  | [_], k, _, _, _, h => by simp at h
  | a :: b :: r, 0, x, y, hx, hy => by
    simp only [List.getElem?_cons_zero, List.getElem?_cons_succ, Option.some.injEq] at hx hy
    subst hx hy
    rfl
  | a :: b :: r, k + 1, x, y, hx, hy => by
    rw [piecesF, List.getElem?_cons_succ]
    exact piecesF_at (b :: r) k x y (by simpa using hx) (by simpa using hy)
theorem piecesF_le {s : ByteArray} : ∀ {L : List Nat}, L.Pairwise (· < ·) → (∀ a ∈ L, a ≤ s.size) → ∀ x ∈ piecesF L, x.1 ≤ x.2 ∧ x.2 ≤ s.size
  | [], _, _, x, h => by simp [piecesF] at h
  | [_], _, _, x, h => by simp [piecesF] at h
  | a :: b :: r, hp, hz, x, h => by
    rw [List.pairwise_cons] at hp
    rw [piecesF] at h
    rcases List.mem_cons.1 h with rfl | h
    · exact ⟨Nat.le_of_lt (hp.1 b (by simp)), hz b (by simp)⟩
    · exact piecesF_le hp.2 (fun c hc => hz c (by simp [hc])) x h
/-- A piece that lies in the text; else the empty one. -/
def clP (s : ByteArray) (x : Nat × Nat) : Nat × Nat := if x.1 ≤ x.2 ∧ x.2 ≤ s.size then x else (0, 0)
theorem clP_le (s : ByteArray) (x : Nat × Nat) : (clP s x).1 ≤ (clP s x).2 ∧ (clP s x).2 ≤ s.size := by
  unfold clP
  split
  · assumption
  · exact ⟨Nat.le_refl _, Nat.zero_le _⟩
theorem clP_in {s : ByteArray} {x : Nat × Nat} (h : x.1 ≤ x.2 ∧ x.2 ≤ s.size) : clP s x = x := if_pos h
theorem wPick_sub (c : List Int) : ∀ (l : List Nat) (i : Nat), List.Sublist (wPick c i l) l
  | [], _ => List.Sublist.refl _
  | a :: r, i => by
    rw [wPick]
    split
    · exact (wPick_sub c r (i + 1)).cons_cons a
    · exact (wPick_sub c r (i + 1)).cons a
theorem wBounds_rise (g : Int → Nat) (s : ByteArray) : (wBounds g s).Pairwise (· < ·) := by
  have h1 : ((runesP s).map (fun x => x.2.1)).Pairwise (· < ·) := by
    rw [List.pairwise_map]; exact runes_rise s
  have h2 := h1.sublist (wPick_sub (wCls g s) _ 0)
  unfold wBounds
  split
  · rw [List.append_nil]; exact h2
  · rw [List.pairwise_append]
    refine ⟨h2, List.pairwise_singleton _ _, fun a ha b hb => ?_⟩
    rw [List.mem_singleton] at hb
    subst hb
    obtain ⟨x, hx, rfl⟩ := List.mem_map.1 ((wPick_sub _ _ 0).mem ha)
    have := runesP_bd x hx
    omega
theorem wBounds_le (g : Int → Nat) (s : ByteArray) : ∀ a ∈ wBounds g s, a ≤ s.size := fun a ha => by
  unfold wBounds at ha
  rcases List.mem_append.1 ha with h | h
  · obtain ⟨x, hx, rfl⟩ := List.mem_map.1 ((wPick_sub _ _ 0).mem h)
    have := runesP_bd x hx
    omega
  · split at h
    · simp at h
    · simp at h; omega
theorem wBounds_len (g : Int → Nat) (s : ByteArray) : (wBounds g s).length ≤ s.size + 1 := by
  unfold wBounds
  rw [List.length_append]
  have h1 := (wPick_sub (wCls g s) ((runesP s).map (fun x => x.2.1)) 0).length_le
  rw [List.length_map] at h1
  have h2 := runesP_len s
  have h3 : (if s.size = 0 then [] else [s.size]).length ≤ 1 := by split <;> simp
  omega
end Go.Proofs.YtlbfbkdcjdeagaaGreatDoor

/-
  props.(*Db).Each: an iterator over utf.Each's, walked.
-/
namespace Go.Proofs.YtlbfbkdcjdeagaaGreatDoor
open Go.RowKit Go.Shelf Go.Maps
attribute [local go_sem] Oper.semAt_some

/-- A round's contract at whatever depth, where no depth is asked. -/
theorem round_any {m m' : Nat} {P : Program} {l l2 : Nat} {f : FuncId} {tmps : Array Value} {assign body : Code} {w : World} {R : Ending → World → Prop} (h : RoundIn Fence.wide m P l f tmps assign body w R) : RoundIn (Fence.wide.inRound l2) m' P l f tmps assign body w R :=
  ⟨h.1, fun c cs _ => h.2 c cs (room_wide _)⟩
/-- What a round keeps: what lay below m; cells but in the blocks of X; iterators. -/
def KpB (m : Nat) (X : Nat → Prop) (A B : World) : Prop := RowKit.Below m A B ∧ KC 0 X A B
theorem KpB.refl (m : Nat) (X : Nat → Prop) (W : World) : KpB m X W W := ⟨RowKit.Below.refl _ _, KC.refl _ _ _⟩
theorem KpB.trans {m : Nat} {X : Nat → Prop} {A B C : World} (h : KpB m X A B) (k : KpB m X B C) : KpB m X A C := ⟨h.1.trans k.1, h.2.trans k.2⟩
theorem KpB.put {m : Nat} {X : Nat → Prop} {w : World} (hm : m ≤ w.heap.size) (W : World) (l : Nat) (o o' : Obj) (hl : w.heap.size ≤ l) (h : W.heap[l]? = some o) (hc : o.isCells = false) (hw : o.isWalk = false) : KpB m X W (W.putObj l o') :=
  ⟨belowK_b (w := w) hm W l o o' hl h hc hw, KC.put W l o o' h hc hw⟩
theorem keepsFrom_below {B : Nat} {A C : World} (h : RowKit.Below A.heap.size A C) : KeepsFrom B A C := ⟨h.size, fun k _ _ hk _ => (h.block k (Array.getElem?_eq_some_iff.1 hk).1).trans hk⟩
theorem keepsWalks_below {A C : World} (h : RowKit.Below A.heap.size A C) : KeepsWalks A C := ⟨h.size, fun k _ hk _ => (h.block k (Array.getElem?_eq_some_iff.1 hk).1).trans hk⟩
theorem keeps_later {B C : Nat} {A D : World} (h : KeepsFrom B A D) (hBC : B ≤ C) : KeepsFrom C A D := ⟨h.size, fun k o hk h0 ho => h.same k o (Nat.le_trans hBC hk) h0 ho⟩
/-- A rune's place and its class. -/
def encWc (d : DbP) (x : Nat × Nat × Nat) : Array Value := #[.int .i64 (x.2.1 : Nat), .int .i64 (d.get (x.1 : Nat) : Nat)]
end Go.Proofs.YtlbfbkdcjdeagaaGreatDoor

/-
  REGIONS THAT DRAW, IN A ROUND of a range over a function: what holds of such a region outside of rounds holds in them. No program's walk.
-/
namespace Go.Proofs.YtlbfbkdcjdeagaaGreatDoor
open Go Go.RowKit

section
variable {P : Program} {Q : Exit → Act → World → Prop} {l n : Nat}
/-- No operation is a defer statement. -/
def noDefer (ops : Array Oper) : Bool := ops.toList.all fun o => match o.op with | .defer _ => false | _ => true
theorem noDefer_at {ops : Array Oper} (h : noDefer ops = true) {i : Nat} {o : Oper} (ho : ops[i]? = some o) : ∀ c, o.op ≠ .defer c := fun c hc => by
  unfold noDefer at h
  rw [List.all_eq_true] at h
  have := h o (by rw [← Array.getElem?_toList] at ho; exact List.mem_of_getElem? ho)
  rw [hc] at this
  cases this
theorem wpIn_of_wp_round {o : Oper} (hd : ∀ c, o.op ≠ .defer c) {a : Act} {w : World} {K : Act → World → Prop} (h : o.wp P a w K Q) : o.wpIn (Fence.wide.inRound l) n P a w K Q := by
  refine ⟨fun _ _ => trivial, ?_⟩
  rw [Oper.semAt_plain _ _ _ hd]
  unfold Oper.wp at h
  generalize (execOp a.eval o).run P w = r at h ⊢
  cases r with
  | ok x w' =>
    cases x with
    | enter f args => exact ⟨fun h => by simp [Fence.wide, Fence.inRound] at h, CallsIn.inRound l (callsIn_wide.2 h)⟩
    | row row args => exact ⟨fun h => by simp [Fence.wide, Fence.inRound] at h, fun c cs _ => let ⟨v, w2, r1, s1⟩ := h c cs; ⟨v, w2, r1, stepsIn_wide.2 s1⟩⟩
    | round => exact False.elim h
    | _ => exact h
  | halt x w' => cases x <;> exact h
theorem wpOpsIn_round {ops : Array Oper} (hd : noDefer ops = true) (hL : ¬ LetsOut Q) : ∀ (L : List Nat) (a : Act) (w : World), wpOps P ops Q L a w → wpOpsIn (Fence.wide.inRound l) n P ops Q L a w
  | [], _, _, h => h
  | i :: rest, a, w, h => by
    unfold wpOps at h
    unfold wpOpsIn
    cases ho : ops[i]? with
    | none => simp only [ho] at h ⊢; exact wpOpsIn_round hd hL rest a w h
    | some o =>
      simp only [ho] at h ⊢
      by_cases hw : Region.wanted o (yielded ops a.tmps) = true
      · simp only [hw, if_true] at h ⊢
        rcases h with h | h
        · exact Oper.wpIn_mono (fun a w h => wpOpsIn_round hd hL rest a w h) (wpIn_of_wp_round (noDefer_at hd ho) h)
        · exact absurd h.2 hL
      · simp only [hw, if_false, Bool.false_eq_true] at h ⊢
        exact ⟨fun _ _ => trivial, wpOpsIn_round hd hL rest _ w h⟩
/-- A region that draws, in a round, by a condition S that holds all the while. -/
theorem wpIn_region_round {S : World → Prop} {id : Nat} {ops : Array Oper} {a : Act} {w : World} (hm : P.follows .mixedOrders = true) (hd : noDefer ops = true) (hL : ¬ LetsOut Q) (hS : S w.drew)
    (h : S w.drew → wpAnyH P .any ops Q S ops.size (Array.replicate ops.size false) a w.drew) : (Code.region id ops true).wpIn (Fence.wide.inRound l) n P Q a w :=
  wpIn_region_draw fun t => by
    simp only [Region.schedule, hm, Bool.true_or, if_true]
    exact wpOpsIn_round hd hL _ _ _ (wpAny_sound ops.size t _ a _ (wpAny_of_held _ _ _ _ (h hS)))
/-- An operation of the wide fence, in a round. -/
theorem wpIn_of_wide_round {o : Oper} (hd : ∀ c, o.op ≠ .defer c) {a : Act} {w : World} {K : Act → World → Prop} (h : o.wpIn Fence.wide n P a w K Q) : o.wpIn (Fence.wide.inRound l) n P a w K Q := by
  refine ⟨fun _ _ => trivial, ?_⟩
  have h2 := h.2
  rw [Oper.semAt_plain _ _ _ hd] at h2 ⊢
  generalize (execOp a.eval o).run P w = r at h2 ⊢
  cases r with
  | ok x w' =>
    cases x with
    | enter f args => exact ⟨fun h => by simp [Fence.wide, Fence.inRound] at h, CallsIn.inRound l h2.2⟩
    | row row args => exact ⟨fun h => by simp [Fence.wide, Fence.inRound] at h, fun c cs _ => h2.2 c cs (room_wide _)⟩
    | round => exact ⟨fun h => by simp [Fence.wide, Fence.inRound] at h, ⟨h2.2.1, fun c cs _ => h2.2.2 c cs (room_wide _)⟩⟩
    | _ => exact h2
  | halt x w' => cases x <;> exact h2
theorem wpOpsIn_wide_round {ops : Array Oper} (hd : noDefer ops = true) : ∀ (L : List Nat) (a : Act) (w : World), wpOpsIn Fence.wide n P ops Q L a w → wpOpsIn (Fence.wide.inRound l) n P ops Q L a w
  | [], _, _, h => h
  | i :: rest, a, w, h => by
    unfold wpOpsIn at h ⊢
    cases ho : ops[i]? with
    | none => simp only [ho] at h ⊢; exact wpOpsIn_wide_round hd rest a w h
    | some o =>
      simp only [ho] at h ⊢
      by_cases hw : Region.wanted o (yielded ops a.tmps) = true
      · simp only [hw, if_true] at h ⊢
        exact Oper.wpIn_mono (fun a w h => wpOpsIn_wide_round hd rest a w h) (wpIn_of_wide_round (noDefer_at hd ho) h)
      · simp only [hw, if_false, Bool.false_eq_true] at h ⊢
        exact ⟨fun _ _ => trivial, wpOpsIn_wide_round hd rest _ w h.2⟩
/-- A region that draws, in a round, by the wide fence's walk (a yield may stand in it). -/
theorem wpIn_region_wide {id : Nat} {ops : Array Oper} {a : Act} {w : World} (hm : P.follows .mixedOrders = true) (hd : noDefer ops = true)
    (h : wpAnyIn Fence.wide n P .any ops Q ops.size (Array.replicate ops.size false) a w.drew) : (Code.region id ops true).wpIn (Fence.wide.inRound l) n P Q a w :=
  wpIn_region_draw fun t => by
    simp only [Region.schedule, hm, Bool.true_or, if_true]
    exact wpOpsIn_wide_round hd _ _ _ (wpAnyIn_sound ops.size t _ a _ h)
theorem round_deep {m m' : Nat} {f : FuncId} {tmps : Array Value} {assign body : Code} {w : World} {R : Ending → World → Prop} (h : RoundIn Fence.wide m P l f tmps assign body w R) : RoundIn Fence.wide m' P l f tmps assign body w R :=
  ⟨h.1, fun c cs _ => h.2 c cs (room_wide _)⟩
end
end Go.Proofs.YtlbfbkdcjdeagaaGreatDoor

