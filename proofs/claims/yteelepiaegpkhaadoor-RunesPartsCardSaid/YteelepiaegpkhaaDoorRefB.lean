/-
  kerfref02.Is, Has, Or, Not, And, Minus.
-/
import Derived.Test.YteelepiaegpkhaaDoorRefA
import Derived.Test.YteelepiaegpkhaaDoorSame
namespace Go.Proofs.YteelepiaegpkhaaDoor
open Go.RowKit

set_option maxHeartbeats 400000 in
theorem sHas_any (A : Option Addr) (n c : Nat) (l : List (Int × Int)) (r : Int) (w : World) (hA : Rd w 2 A (l.map encR)) (hl : l.length = n) (hn : n ≤ 4000000) :
    Calls Tryd.prog 23 #[.slice A n c, .int .i32 r] w fun e w' => e = .returned (.bool (hasB l r)) ∧ w = w' := by
  have Hl := Lib.hid hl
  clear hl
  by_cases h0 : 0 ≤ r ∧ r ≤ 1114111
  · obtain ⟨h0, h1⟩ := h0
    go_enter Tryd.func23, Tryd.ntmps23
    go_wp2
    go_loop [5] (fun i => ∃ k : Nat, k ≤ n ∧ i = .int .i64 k ∧ Hid (∀ x ∈ l.take k, ¬ (x.1 ≤ r ∧ r ≤ x.2))) (fun i => n - (intOf i).toNat)
    case atStart => exact ⟨0, by omega, rfl, by simp [Hid]⟩
    case round =>
      obtain ⟨k, hk, rfl, HE⟩ := hrel
      by_cases hlt : k < n
      · obtain ⟨b, off, lo, hi, rfl, Hx, hx1, hx2⟩ := hA.atR (k := k) (by have := Hl.out; omega)
        by_cases hlo : lo ≤ r <;> by_cases hhi : r ≤ hi
        · have HT : Hid (hasB l r = true) := hasB_true ⟨h0, h1, (lo, hi), List.mem_of_getElem? Hx.out, hlo, hhi⟩
          go_wp2
          go_ret
          exact ⟨ret_bool HT.out.symm, rfl⟩
        all_goals
          have HE' : Hid (∀ x ∈ l.take (k + 1), ¬ (x.1 ≤ r ∧ r ≤ x.2)) := Lib.hid (fun x hx => by
            rw [List.take_add_one, Hx.out] at hx
            rcases List.mem_append.1 hx with hx | hx
            · exact HE.out x hx
            · simp at hx; subst hx; simp only; omega)
          go_wp2
          go_round
          case rel => exact ⟨k + 1, by omega, by go_num, HE'⟩
          case measure => simp [intOf]; omega
      · have HF : Hid (hasB l r = false) := hasB_false (fun ⟨_, _, x, hx, h⟩ => HE.out x (by rw [List.take_of_length_le (by have := Hl.out; omega)]; exact hx) h)
        go_wp2
        go_ret
        exact ⟨ret_bool HF.out.symm, rfl⟩
  · have HF : Hid (hasB l r = false) := hasB_false (fun h => h0 ⟨h.1, h.2.1⟩)
    by_cases h1 : 0 ≤ r
    all_goals
      go_enter Tryd.func23, Tryd.ntmps23
      go_wp2
      go_loop [5] (fun i => ∃ k : Nat, k ≤ n ∧ i = .int .i64 k) (fun i => n - (intOf i).toNat)
      case atStart => exact ⟨0, by omega, rfl⟩
      case round =>
        obtain ⟨k, hk, rfl⟩ := hrel
        by_cases hlt : k < n
        · have h2 : ¬ r ≤ 1114111 ∨ ¬ 0 ≤ r := by omega
          first
            | (have h3 : 1114111 < r := by omega
               clear h2 h0
               go_wp2
               go_round
               case rel => exact ⟨k + 1, by omega, by go_num⟩
               case measure => simp [intOf]; omega)
            | (have h3 : r < 0 := by omega
               clear h2 h0
               go_wp2
               go_round
               case rel => exact ⟨k + 1, by omega, by go_num⟩
               case measure => simp [intOf]; omega)
        · clear h0
          go_wp2
          go_ret
          exact ⟨ret_bool HF.out.symm, rfl⟩

set_option maxHeartbeats 400000 in
theorem sIs_any (A : Option Addr) (n c : Nat) (l : List (Int × Int)) (w : World) (hA : Rd w 2 A (l.map encR)) (hl : l.length = n) (hn : n ≤ 4000000) :
    Calls Tryd.prog 20 #[.slice A n c] w fun e w' => e = .returned (.bool (decide (l = normR l))) ∧ Below w.heap.size w w' := by
  have Hl := Lib.hid hl
  clear hl
  go_enter Tryd.func20, Tryd.ntmps20
  go_wp2_with (first
    | (go_at_call 18; go_must (refine (sNorm_any A n c l _ hA Hl.out hn).mono ?_); rintro e w1 ⟨A1, n1, c1, rfl, ho1, hb1⟩)
    | (go_at_call 14; go_must (refine (sSame_any A A1 n c n1 c1 l (normR l) _ (hA.below hb1) (ho1.rd (by omega)) Hl.out (by simpa using ho1.len) (by unfold maxLen; omega) (by have := ho1.cap; omega)).mono ?_); rintro e w2 ⟨rfl, q, rfl⟩))
  go_ret
  exact ⟨rfl, below_drewN hb1 _⟩

set_option maxHeartbeats 400000 in
theorem sOr_any (A A2 : Option Addr) (n c n2 c2 : Nat) (a b : List (Int × Int)) (w : World) (hA : Rd w 2 A (a.map encR)) (hB : Rd w 2 A2 (b.map encR)) (ha : a.length = n) (hb : b.length = n2) (hn : n + n2 ≤ 4000000) :
    Calls Tryd.prog 36 #[.slice A n c, .slice A2 n2 c2] w fun e w' => ∃ A' n' c', e = .returned (.slice A' n' c') ∧ Own w' w.heap.size 37 2 A' n' c' ((orR a b).map encR) ∧ Below w.heap.size w w' := by
  obtain ⟨i0, hi0, hz0, hz1, hz2⟩ := info_parts infoR
  have Ha := Lib.hid ha
  have Hb := Lib.hid hb
  clear ha hb
  go_enter Tryd.func36, Tryd.ntmps36
  go_wp2_with (first
    | (at_builtin; refine wpList_app rfl (.tmp 5) (.tmp 6) _ rfl w.heap.size 37 i0 _ 2 8 Tryd.underlying23 hi0 hz0 hz1 hz2 rfl (by omega) (some ⟨w.heap.size, 0, none⟩) 0 0 [] rfl (Own.lit w _ _ _ (Nat.le_refl _)) A n c (a.map encR) rfl (by simpa using Ha.out) (hA.alloc _) (encR_ok a) (by unfold maxLen; omega) (by omega) (by simp) ?_; intro A3 c3 w3 ho3' hg3 _; have ho3 : Own w3 w.heap.size 37 2 A3 n c3 (a.map encR) := (by simpa using ho3'); clear ho3'; have hb3 := below_app ((Below.refl _ w).alloc (Nat.le_refl _) (.cells #[] 37)) hg3 (by simp) (fun a ha => by cases ha; exact Nat.le_refl _); clear hg3)
    | (at_builtin; refine wpList_app rfl (.tmp 7) (.tmp 8) _ rfl w.heap.size 37 i0 _ 2 8 Tryd.underlying23 hi0 hz0 hz1 hz2 rfl (by omega) A3 n c3 (a.map encR) rfl ho3 A2 n2 c2 (b.map encR) rfl (by simpa using Hb.out) (hB.below hb3) (encR_ok b) (by unfold maxLen; omega) (by omega) hb3.size ?_; intro A4 c4 w4 ho4 hg4 _; have hb4 := below_app hb3 hg4 hb3.size (fun a ha => (ho3.lt a ha).1); clear hg4)
    | (go_at_call 18; refine (sNorm_any A4 (n + n2) c4 (a ++ b) _ (by simpa using ho4.rd (by omega)) (by simp; have := Ha.out; have := Hb.out; omega) (by omega)).mono ?_; rintro e w5 ⟨A5, n5, c5, rfl, ho5, hb5⟩))
  go_ret
  exact ⟨_, _, _, rfl, ho5.more hb4.size, below_step hb4 hb5 hb4.size⟩
end Go.Proofs.YteelepiaegpkhaaDoor
