/-
  slices.Equal, IndexFunc, ContainsFunc as runes calls them; runes.Is, Has.
-/
import Derived.Test.YteelepiaegpkhaaDoorRunA
namespace Go.Proofs.YteelepiaegpkhaaDoor
open Go.RowKit
attribute [local go_sem ↓] neqR eqlR

set_option maxHeartbeats 400000 in
theorem lEqual_any (A A2 : Option Addr) (n c m c2 : Nat) (xs ys : List (Int × Int)) (w : World) (hA : Rd w 2 A (xs.map encR)) (hB : Rd w 2 A2 (ys.map encR))
    (hn : xs.length = n) (hm : ys.length = m) (hn' : n ≤ maxLen) (hm' : m ≤ maxLen) :
    Calls Tryd.prog 54 #[.slice A n c, .slice A2 m c2] w fun e w' => e = .returned (.bool (decide (xs = ys))) ∧ ∃ q, w' = w.drewN q := by
  unfold maxLen at hn' hm'
  by_cases hl : n = m
  · subst hl
    have Hn := Lib.hid hn; have Hm := Lib.hid hm
    clear hn hm
    go_enter Tryd.func54, Tryd.ntmps54
    go_wp2
    go_loopw [13] (fun i wr => ∃ k : Nat, k ≤ n ∧ i = .int .i64 k ∧ Hid (∀ i, i < k → xs[i]? = ys[i]?) ∧ (∃ q, wr = w.drewN q)) (fun i _ => n - (intOf i).toNat)
    case atStart => exact ⟨0, by omega, rfl, fun i hi => by omega, 0, rfl⟩
    case round =>
      obtain ⟨k, hk, rfl, HE, q, rfl⟩ := hrel
      by_cases hlt : k < n
      · obtain ⟨b, off, lo, hi, rfl, Hx, hx1, hx2⟩ := hA.atR (k := k) (by have := Hn.out; omega)
        obtain ⟨b2, off2, lo2, hi2, rfl, Hy, hy1, hy2⟩ := hB.atR (k := k) (by have := Hm.out; omega)
        by_cases he : (lo, hi) = (lo2, hi2)
        · have he' := eqRB_true he
          have HE' : Hid (∀ i, i < k + 1 → xs[i]? = ys[i]?) := fun i hi => by
            rcases Nat.lt_or_ge i k with h | h
            · exact HE.out i h
            · obtain rfl : i = k := by omega
              rw [Hx.out, Hy.out, he]
          clear he
          go_wp2_with fail
          go_quiet (fail)
          go_wp2
          go_roundw
          case rel => exact ⟨k + 1, by omega, by go_num, HE', _, rfl⟩
          case measure => simp [intOf]; omega
        · have he' := eqRB_false he
          have HF : Hid (decide (xs = ys) = false) := decide_eq_false fun e => he (by have h1 := Hx.out; rw [e, Hy.out] at h1; simpa using h1.symm)
          clear he
          go_wp2_with fail
          go_quiet (fail)
          go_wp2
          go_ret
          exact ⟨ret_bool HF.out.symm, drN2 _ _ _⟩
      · go_wp2
        go_ret
        have : xs = ys := by
          apply List.ext_getElem?
          intro i
          rcases Nat.lt_or_ge i n with h | h
          · exact HE.out i (by omega)
          · rw [List.getElem?_eq_none (by have := Hn.out; omega), List.getElem?_eq_none (by have := Hm.out; omega)]
        exact ⟨ret_bool (by simp [this]), _, rfl⟩
  · have hl' : (((n : Int)) != (m : Int)) = true := by simp; omega
    have HF : Hid (decide (xs = ys) = false) := decide_eq_false fun e => hl (by rw [← hn, ← hm, e])
    clear hn hm
    go_enter Tryd.func54, Tryd.ntmps54
    go_wp2
    go_ret
    exact ⟨ret_bool HF.out.symm, 0, rfl⟩

set_option maxHeartbeats 400000 in
theorem rIs_any (A : Option Addr) (n c : Nat) (l : List (Int × Int)) (w : World) (hA : Rd w 2 A (l.map encR)) (hl : l.length = n) (hn : n ≤ 4000000) :
    Calls Tryd.prog 19 #[.slice A n c] w fun e w' => e = .returned (.bool (decide (l = normR l))) ∧ RowKit.Below w.heap.size w w' := by
  have Hl := Lib.hid hl
  clear hl
  go_enter Tryd.func19, Tryd.ntmps19
  go_wp2_with (first
    | (go_at_call 17; go_must (refine (rNorm_any A n c l _ hA Hl.out hn).mono ?_); rintro e w1 ⟨A1, n1, c1, rfl, ho1, hb1⟩)
    | (go_at_call 54; go_must (refine (lEqual_any A A1 n c n1 c1 l (normR l) _ (hA.below hb1) (ho1.rd (by omega)) Hl.out (by simpa using ho1.len) (by unfold maxLen; omega) (by have := ho1.cap; omega)).mono ?_); rintro e w2 ⟨rfl, q, rfl⟩))
  go_ret
  exact ⟨rfl, below_drewN hb1 _⟩

/-- The closure of Has: is a range's rune? -/
theorem closureHas (lo hi r : Int) (b : Nat) (w : World) (hc : w.cell? ⟨b, 0, none⟩ = some (.int .i32 r)) :
    Calls Tryd.prog 56 #[.agg #[.int .i32 lo, .int .i32 hi], .pointer (some ⟨b, 0, none⟩)] w fun e w' => e = .returned (.bool (decide (lo ≤ r) && decide (r ≤ hi))) ∧ RowKit.Below w.heap.size w w' := by
  have hc' : ∀ o, (w.alloc o).cell? ⟨b, 0, none⟩ = some (.int .i32 r) := fun o => cell_keep hc ((RowKit.Below.refl _ _).alloc (Nat.le_refl _) o)
  by_cases h1 : lo ≤ r
  · by_cases h2 : r ≤ hi
    all_goals
      go_enter Tryd.func56, Tryd.ntmps56
      go_wp2
      go_ret
      exact ⟨ret_bool (by simp [h1, h2]), (RowKit.Below.refl _ _).alloc (Nat.le_refl _) _⟩
  · go_enter Tryd.func56, Tryd.ntmps56
    go_wp2
    go_ret
    exact ⟨ret_bool (by simp; omega), (RowKit.Below.refl _ _).alloc (Nat.le_refl _) _⟩

theorem memR_take_succ {l : List (Int × Int)} {k : Nat} {x : Int × Int} (h : l[k]? = some x) (r : Int) : memR (l.take (k + 1)) r ↔ memR (l.take k) r ∨ (x.1 ≤ r ∧ r ≤ x.2) := by
  rw [List.take_add_one, h, memR_append, Option.toList_some, memR_cons]; simp [memR_nil]

set_option maxHeartbeats 400000 in
theorem lIndexFunc_any (A : Option Addr) (n c b : Nat) (l : List (Int × Int)) (r : Int) (w : World) (hA : Rd w 2 A (l.map encR)) (hl : l.length = n) (hn : n ≤ 4000000) (hc : w.cell? ⟨b, 0, none⟩ = some (.int .i32 r)) :
    Calls Tryd.prog 67 #[.slice A n c, .func (.func 56) #[] #[.pointer (some ⟨b, 0, none⟩)]] w fun e w' =>
      (∃ i : Int, e = .returned (.int .i64 i) ∧ -1 ≤ i ∧ i ≤ 4000000 ∧ Hid (0 ≤ i ↔ memR l r)) ∧ RowKit.Below w.heap.size w w' := by
  have Hl := Lib.hid hl
  clear hl
  go_enter Tryd.func67, Tryd.ntmps67
  go_wp2
  go_loopw [8] (fun i wr => ∃ k : Nat, k ≤ n ∧ i = .int .i64 k ∧ Hid (¬ memR (l.take k) r) ∧ RowKit.Below w.heap.size w wr) (fun i _ => n - (intOf i).toNat)
  case atStart => exact ⟨0, by omega, rfl, memR_nil r, RowKit.Below.refl _ _⟩
  case round =>
    obtain ⟨k, hk, rfl, HE, hb⟩ := hrel
    by_cases hlt : k < n
    · obtain ⟨b2, off, lo, hi, rfl, Hx, hx1, hx2⟩ := hA.atR (k := k) (by have := Hl.out; omega)
      have hr1 := cell_keep hx1 hb
      have hr2 := cell_keep hx2 hb
      have hcr := cell_keep hc hb
      have HT := Lib.hid (memR_take_succ Hx.out r)
      by_cases hin : lo ≤ r ∧ r ≤ hi
      · have Hd : Hid ((decide (lo ≤ r) && decide (r ≤ hi)) = true) := by simpa [Hid] using hin
        clear hin
        go_wp2_with (go_at_call 56; go_must (refine (closureHas lo hi r b _ hcr).mono ?_); rw [Hd.out]; rintro e w2 ⟨rfl, hb2⟩)
        go_ret
        refine ⟨⟨k, rfl, by omega, by omega, Lib.hid ⟨fun _ => ?_, fun _ => by omega⟩⟩, below_step hb hb2 hb.size⟩
        have hm : memR (l.take (k + 1)) r := HT.out.2 (.inr (by simpa using Hd.out))
        obtain ⟨x, hx, h⟩ := hm
        exact ⟨x, List.mem_of_mem_take hx, h⟩
      · have Hd : Hid ((decide (lo ≤ r) && decide (r ≤ hi)) = false) := by simp [Hid]; omega
        have HE' : Hid (¬ memR (l.take (k + 1)) r) := Lib.hid (fun h => by
          rcases HT.out.1 h with h | h
          · exact HE.out h
          · exact hin h)
        clear hin
        go_wp2_with (go_at_call 56; go_must (refine (closureHas lo hi r b _ hcr).mono ?_); rw [Hd.out]; rintro e w2 ⟨rfl, hb2⟩)
        go_roundw
        case rel => exact ⟨k + 1, by omega, by go_num, HE', below_step hb hb2 hb.size⟩
        case measure => simp [intOf]; omega
    · go_wp2
      go_ret
      exact ⟨⟨-1, rfl, by omega, by omega, Lib.hid ⟨fun h => by omega, fun h => absurd (by rw [List.take_of_length_le (by have := Hl.out; omega)]; exact h) HE.out⟩⟩, hb⟩

set_option maxHeartbeats 400000 in
theorem lContainsFunc_any (A : Option Addr) (n c b : Nat) (l : List (Int × Int)) (r : Int) (w : World) (hA : Rd w 2 A (l.map encR)) (hl : l.length = n) (hn : n ≤ 4000000) (hc : w.cell? ⟨b, 0, none⟩ = some (.int .i32 r)) :
    Calls Tryd.prog 55 #[.slice A n c, .func (.func 56) #[] #[.pointer (some ⟨b, 0, none⟩)]] w fun e w' =>
      (∃ q : Bool, e = .returned (.bool q) ∧ Hid (q = true ↔ memR l r)) ∧ RowKit.Below w.heap.size w w' := by
  have Hl := Lib.hid hl
  clear hl
  go_enter Tryd.func55, Tryd.ntmps55
  go_wp2_with fail
  refine (lIndexFunc_any A n c b l r _ hA Hl.out hn hc).mono ?_
  rintro e w1 ⟨⟨i, rfl, h1, h2, HI⟩, hb1⟩
  by_cases h0 : 0 ≤ i
  · go_wp2
    go_ret
    exact ⟨⟨true, rfl, Lib.hid ⟨fun _ => HI.out.1 h0, fun _ => rfl⟩⟩, hb1⟩
  · obtain rfl : i = -1 := by omega
    go_wp2
    go_ret
    exact ⟨⟨false, rfl, Lib.hid ⟨fun h => (by cases h), fun h => absurd (HI.out.2 h) (by omega)⟩⟩, hb1⟩

set_option maxHeartbeats 400000 in
theorem rHas_any (A : Option Addr) (n c : Nat) (l : List (Int × Int)) (r : Int) (w : World) (hA : Rd w 2 A (l.map encR)) (hl : l.length = n) (hn : n ≤ 4000000) :
    Calls Tryd.prog 22 #[.slice A n c, .int .i32 r] w fun e w' => e = .returned (.bool (hasB l r)) ∧ RowKit.Below w.heap.size w w' := by
  have Hl := Lib.hid hl
  clear hl
  rcases (by omega : (0 ≤ r ∧ r ≤ 1114111) ∨ (0 ≤ r ∧ 1114111 < r) ∨ r < 0) with ⟨h0, h1⟩ | ⟨h0, h1⟩ | h0
  · go_enter Tryd.func22, Tryd.ntmps22
    go_wp2_with (go_at_call 55; go_must (refine (lContainsFunc_any A n c w.heap.size l r _ (hA.alloc _) Hl.out hn (by simp)).mono ?_); rintro e w1 ⟨⟨q, rfl, HQ⟩, hb1⟩)
    go_ret
    refine ⟨ret_bool ?_, below_two ((RowKit.Below.refl _ _).alloc (Nat.le_refl _) _) hb1⟩
    by_cases hm : memR l r
    · rw [hasB_true ⟨h0, h1, hm⟩]; simpa using HQ.out.2 hm
    · rw [hasB_false (fun h => hm h.2.2)]
      cases q
      · rfl
      · exact absurd (HQ.out.1 rfl) hm
  all_goals
    have HF : Hid (hasB l r = false) := hasB_false (fun h => by have := h.1; have := h.2.1; omega)
    go_enter Tryd.func22, Tryd.ntmps22
    go_wp2
    go_ret
    exact ⟨ret_bool HF.out.symm, (RowKit.Below.refl _ _).alloc (Nat.le_refl _) _⟩
end Go.Proofs.YteelepiaegpkhaaDoor
