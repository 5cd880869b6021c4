/-
  slices.Equal, IndexFunc, ContainsFunc as runes calls them; runes.Is, Has.
-/
import Derived.Test.YteelepiaegpkhaaGreatDoorRunA
namespace Go.Proofs.YteelepiaegpkhaaGreatDoor
open Go.RowKit
attribute [local go_sem ↓] neqR eqlR

/-- The closure of Has: is a range's rune? -/
theorem closureHas (lo hi r : Int) (b : Nat) (w : World) (hc : w.cell? ⟨b, 0, none⟩ = some (.int .i32 r)) :
    Calls Tryz.prog 59 #[.agg #[.int .i32 lo, .int .i32 hi], .pointer (some ⟨b, 0, none⟩)] w fun e w' => e = .returned (.bool (decide (lo ≤ r) && decide (r ≤ hi))) ∧ RowKit.Below w.heap.size w w' := by
  have hc' : ∀ o, (w.alloc o).cell? ⟨b, 0, none⟩ = some (.int .i32 r) := fun o => cell_keep hc ((RowKit.Below.refl _ _).alloc (Nat.le_refl _) o)
  by_cases h1 : lo ≤ r
  · by_cases h2 : r ≤ hi
    all_goals
      go_enter Tryz.func59, Tryz.ntmps59
      go_wp2
      go_ret
      exact ⟨ret_bool (by simp [h1, h2]), (RowKit.Below.refl _ _).alloc (Nat.le_refl _) _⟩
  · go_enter Tryz.func59, Tryz.ntmps59
    go_wp2
    go_ret
    exact ⟨ret_bool (by simp; omega), (RowKit.Below.refl _ _).alloc (Nat.le_refl _) _⟩

theorem memR_take_succ {l : List (Int × Int)} {k : Nat} {x : Int × Int} (h : l[k]? = some x) (r : Int) : memR (l.take (k + 1)) r ↔ memR (l.take k) r ∨ (x.1 ≤ r ∧ r ≤ x.2) := by
  rw [List.take_add_one, h, memR_append, Option.toList_some, memR_cons]; simp [memR_nil]

set_option maxHeartbeats 400000 in
theorem lIndexFunc_any (A : Option Addr) (n c b : Nat) (l : List (Int × Int)) (r : Int) (w : World) (hA : Rd w 2 A (l.map encR)) (hl : l.length = n) (hn : n ≤ 4000000) (hc : w.cell? ⟨b, 0, none⟩ = some (.int .i32 r)) :
    Calls Tryz.prog 81 #[.slice A n c, .func (.func 59) #[] #[.pointer (some ⟨b, 0, none⟩)]] w fun e w' =>
      (∃ i : Int, e = .returned (.int .i64 i) ∧ -1 ≤ i ∧ i ≤ 4000000 ∧ Hid (0 ≤ i ↔ memR l r)) ∧ RowKit.Below w.heap.size w w' := by
  have Hl := Lib.hid hl
  clear hl
  go_enter Tryz.func81, Tryz.ntmps81
  go_wp2
  go_loopw [8] (fun i wr => ∃ k : Nat, k ≤ n ∧ i = .int .i64 k ∧ Hid (¬ memR (l.take k) r) ∧ RowKit.Below w.heap.size w wr) (fun i _ => n - (intOf i).toNat)
  case atStart => exact ⟨0, by omega, rfl, memR_nil r, RowKit.Below.refl _ _⟩
  case round =>
    obtain ⟨k, hk, rfl, HE, hb⟩ := hrel
    by_cases hlt : k < n
    · obtain ⟨b2, off, lo, hi, rfl, Hx, hx1, hx2⟩ := hA.atR (k := k) (by have := Hl.out; omega)
      have hr1 := cell_keep hx1 hb
      have hr2 := cell_keep hx2 hb
      have hcr := cell_keep hc hb
      have HT := Lib.hid (memR_take_succ Hx.out r)
      by_cases hin : lo ≤ r ∧ r ≤ hi
      · have Hd : Hid ((decide (lo ≤ r) && decide (r ≤ hi)) = true) := by simpa [Hid] using hin
        clear hin
        go_wp2_with (go_at_call 59; go_must (refine (closureHas lo hi r b _ hcr).mono ?_); rw [Hd.out]; rintro e w2 ⟨rfl, hb2⟩)
        go_ret
        refine ⟨⟨k, rfl, by omega, by omega, Lib.hid ⟨fun _ => ?_, fun _ => by omega⟩⟩, below_step hb hb2 hb.size⟩
        have hm : memR (l.take (k + 1)) r := HT.out.2 (.inr (by simpa using Hd.out))
        obtain ⟨x, hx, h⟩ := hm
        exact ⟨x, List.mem_of_mem_take hx, h⟩
      · have Hd : Hid ((decide (lo ≤ r) && decide (r ≤ hi)) = false) := by simp [Hid]; omega
        have HE' : Hid (¬ memR (l.take (k + 1)) r) := Lib.hid (fun h => by
          rcases HT.out.1 h with h | h
          · exact HE.out h
          · exact hin h)
        clear hin
        go_wp2_with (go_at_call 59; go_must (refine (closureHas lo hi r b _ hcr).mono ?_); rw [Hd.out]; rintro e w2 ⟨rfl, hb2⟩)
        go_roundw
        case rel => exact ⟨k + 1, by omega, by go_num, HE', below_step hb hb2 hb.size⟩
        case measure => simp [intOf]; omega
    · go_wp2
      go_ret
      exact ⟨⟨-1, rfl, by omega, by omega, Lib.hid ⟨fun h => by omega, fun h => absurd (by rw [List.take_of_length_le (by have := Hl.out; omega)]; exact h) HE.out⟩⟩, hb⟩

set_option maxHeartbeats 400000 in
theorem lContainsFunc_any (A : Option Addr) (n c b : Nat) (l : List (Int × Int)) (r : Int) (w : World) (hA : Rd w 2 A (l.map encR)) (hl : l.length = n) (hn : n ≤ 4000000) (hc : w.cell? ⟨b, 0, none⟩ = some (.int .i32 r)) :
    Calls Tryz.prog 58 #[.slice A n c, .func (.func 59) #[] #[.pointer (some ⟨b, 0, none⟩)]] w fun e w' =>
      (∃ q : Bool, e = .returned (.bool q) ∧ Hid (q = true ↔ memR l r)) ∧ RowKit.Below w.heap.size w w' := by
  have Hl := Lib.hid hl
  clear hl
  go_enter Tryz.func58, Tryz.ntmps58
  go_wp2_with fail
  refine (lIndexFunc_any A n c b l r _ hA Hl.out hn hc).mono ?_
  rintro e w1 ⟨⟨i, rfl, h1, h2, HI⟩, hb1⟩
  by_cases h0 : 0 ≤ i
  · go_wp2
    go_ret
    exact ⟨⟨true, rfl, Lib.hid ⟨fun _ => HI.out.1 h0, fun _ => rfl⟩⟩, hb1⟩
  · obtain rfl : i = -1 := by omega
    go_wp2
    go_ret
    exact ⟨⟨false, rfl, Lib.hid ⟨fun h => (by cases h), fun h => absurd (HI.out.2 h) (by omega)⟩⟩, hb1⟩

set_option maxHeartbeats 400000 in
theorem rHas_any (A : Option Addr) (n c : Nat) (l : List (Int × Int)) (r : Int) (w : World) (hA : Rd w 2 A (l.map encR)) (hl : l.length = n) (hn : n ≤ 4000000) :
    Calls Tryz.prog 36 #[.slice A n c, .int .i32 r] w fun e w' => e = .returned (.bool (hasB l r)) ∧ RowKit.Below w.heap.size w w' := by
  have Hl := Lib.hid hl
  clear hl
  rcases (by omega : (0 ≤ r ∧ r ≤ 1114111) ∨ (0 ≤ r ∧ 1114111 < r) ∨ r < 0) with ⟨h0, h1⟩ | ⟨h0, h1⟩ | h0
  · go_enter Tryz.func36, Tryz.ntmps36
    go_wp2_with (go_at_call 58; go_must (refine (lContainsFunc_any A n c w.heap.size l r _ (hA.alloc _) Hl.out hn (by simp)).mono ?_); rintro e w1 ⟨⟨q, rfl, HQ⟩, hb1⟩)
    go_ret
    refine ⟨ret_bool ?_, below_two ((RowKit.Below.refl _ _).alloc (Nat.le_refl _) _) hb1⟩
    by_cases hm : memR l r
    · rw [hasB_true ⟨h0, h1, hm⟩]; simpa using HQ.out.2 hm
    · rw [hasB_false (fun h => hm h.2.2)]
      cases q
      · rfl
      · exact absurd (HQ.out.1 rfl) hm
  all_goals
    have HF : Hid (hasB l r = false) := hasB_false (fun h => by have := h.1; have := h.2.1; omega)
    go_enter Tryz.func36, Tryz.ntmps36
    go_wp2
    go_ret
    exact ⟨ret_bool HF.out.symm, (RowKit.Below.refl _ _).alloc (Nat.le_refl _) _⟩
end Go.Proofs.YteelepiaegpkhaaGreatDoor
