/-
  strings.Join with one blank between.
-/
import Derived.Test.YteelepiaegpkhaaGreatDoorGrow
import Derived.Test.YteelepiaegpkhaaGreatDoorPar
namespace Go.Proofs.YteelepiaegpkhaaGreatDoor
open Go.RowKit

def joinL : List ByteArray → List UInt8
  | [] => []
  | [x] => x.data.toList
  | x :: y :: r => x.data.toList ++ 32 :: joinL (y :: r)
theorem joinL_snoc : ∀ (l : List ByteArray) (x : ByteArray), l ≠ [] → joinL (l ++ [x]) = joinL l ++ [32] ++ x.data.toList
  | [], _, h => absurd rfl h
  | [y], x, _ => by simp [joinL]
  | y :: z :: r, x, _ => by
    have ih := joinL_snoc (z :: r) x (by simp)
    simp only [List.cons_append, joinL] at ih ⊢
    rw [ih]; simp
theorem joinL_len : ∀ (l : List ByteArray), (∀ x ∈ l, x.size ≤ 1000) → (joinL l).length ≤ 1001 * l.length
  | [], _ => by simp [joinL]
  | [x], h => by have := h x (by simp); simp [joinL] at this ⊢; have h2 : x.data.size = x.size := rfl; omega
  | x :: y :: r, h => by
    have h1 := h x (by simp)
    have ih := joinL_len (y :: r) (fun z hz => h z (by simp [hz]))
    have h2 := size_data x
    rw [joinL, List.length_append, List.length_cons, h2]
    simp only [List.length_cons] at ih ⊢
    omega
theorem joinL_step {ss : List ByteArray} {k : Nat} {x : ByteArray} (h : ss[k + 1]? = some x) : joinL (ss.take (k + 1 + 1)) = joinL (ss.take (k + 1)) ++ [32] ++ x.data.toList := by
  rw [List.take_add_one (i := k + 1), h, Option.toList_some, joinL_snoc]
  intro e
  have h1 : (ss.take (k + 1)).length = 0 := by rw [e]; rfl
  have h2 := (List.getElem?_eq_some_iff.1 h).1
  rw [List.length_take] at h1
  omega

set_option maxRecDepth 100000 in
set_option maxHeartbeats 2000000 in
theorem lJoin_any (A : Option Addr) (n c : Nat) (ss : List ByteArray) (w : World) (hA : Rd w 1 A (ss.map fun s => [Value.string s])) (hl : ss.length = n) (hc : n ≤ c) (hn : n ≤ 600000) (hz : ∀ s ∈ ss, s.size ≤ 1000) :
    Calls Tryz.prog 17 #[.slice A n c, .string ⟨#[32]⟩] w fun e w' => e = .returned (.string ⟨(joinL ss).toArray⟩) ∧ Below w.heap.size w w' := by
  have Hl := Lib.hid hl
  have Hz := Lib.hid hz
  clear hl hz
  by_cases h0 : n = 0
  · subst h0
    have : ss = [] := List.eq_nil_of_length_eq_zero Hl.out
    subst this
    go_enter Tryz.func17, Tryz.ntmps17
    go_wp2_with fail
    go_ret
    exact ⟨rfl, Below.refl _ _⟩
  obtain ⟨b, off, x0, rfl, Hx0, d0⟩ := hA.at1 (k := 0) (by have := Hl.out; omega)
  rw [Nat.add_zero] at d0
  by_cases h1 : n = 1
  · subst h1
    have hss : ss = [x0] := by
      have h2 := Hl.out
      match ss, h2 with
      | [y], _ => have := Hx0.out; simp at this; rw [this]
    have HS := Lib.hid hss
    clear hss h0
    go_enter Tryz.func17, Tryz.ntmps17
    go_wp2_with fail
    go_ret
    refine ⟨?_, Below.refl _ _⟩
    rw [HS.out]; rfl
  have hn2 : 2 ≤ n := by omega
  have hq : (1 : Int) < 9223372036854775807 / ((n : Int) - 1) := by
    have : (2 : Int) ≤ 9223372036854775807 / ((n : Int) - 1) := Int.le_ediv_of_mul_le (by omega) (by omega)
    omega
  have hx0z := Hz.out x0 (List.mem_of_getElem? Hx0.out)
  clear h0 h1
  go_enter Tryz.func17, Tryz.ntmps17
  go_wp2_with fail
  go_loop [5, 41] (fun v5 v41 => ∃ (k m : Nat), v5 = .int .i64 m ∧ v41 = .int .i64 k ∧ k ≤ n ∧ m ≤ 600000 + 1000 * k) (fun _ v41 => n - (intOf v41).toNat)
  case atStart => exact ⟨0, n - 1, by go_num, rfl, by omega, by omega⟩
  case round =>
    clear hq
    obtain ⟨k, m, rfl, rfl, hk, hm⟩ := hrel
    by_cases hlt : k < n
    · obtain ⟨b', off', x, hbo, Hx, d1⟩ := hA.at1 (k := k) (by have := Hl.out; omega)
      injection hbo with hbo
      injection hbo with hb1 hb2
      subst hb1; subst hb2
      have hxz := Hz.out x (List.mem_of_getElem? Hx.out)
      go_wp2_with fail
      go_round
      case rel => exact ⟨k + 1, m + x.size, by go_num, by go_num, by omega, by omega⟩
      case measure => simp [intOf]; omega
    · obtain rfl : n = k := by omega
      have hbk : (w.alloc (.cells #[.pointer none, .slice none 0 0] 52)).heap[w.heap.size]? = some (.cells #[.pointer none, .slice none 0 0] 52 (0, 0)) := heap_alloc_new w _
      have hb0 : Below w.heap.size w (w.alloc (.cells #[.pointer none, .slice none 0 0] 52)) := (Below.refl _ _).alloc (Nat.le_refl _) _
      go_wp2_with fail
      refine (bGrow_any w.heap.size m _ hbk (by omega)).mono ?_
      rintro e w1 ⟨rfl, hB1, hb1⟩
      have hb2 := hb0.trans hb1
      have e0 := cell_keep d0 hb2
      have hB1z := hB1.lt
      clear hbk hb0 hb1
      go_wp2_with fail
      refine (lWriteString_any w.heap.size (w.heap.size + 1) [] x0 w1 hB1 (by omega) (by simp only [List.length_nil]; omega) hB1z).mono ?_
      rintro e w2 ⟨rfl, hB2, hb3, _, _⟩
      have hb4 := hb2.trans hb3
      clear hb2 hb3 hB1 e0
      have HJ := Lib.hid (show [] ++ x0.data.toList = joinL (ss.take (0 + 1)) by
        have := Hx0.out
        rw [List.take_add_one, this]; simp [joinL])
      rw [HJ.out] at hB2
      clear HJ
      go_wp2_with fail
      go_loopw [65] (fun v65 wr => ∃ (k : Nat), v65 = .int .i64 k ∧ k + 1 ≤ n ∧ Bld wr w.heap.size (w.heap.size + 1) (joinL (ss.take (k + 1))) ∧ Below w.heap.size w wr) (fun v65 _ => n - (intOf v65).toNat)
      case atStart => exact ⟨0, rfl, by omega, hB2, hb4⟩
      case round =>
        clear hB2 hb4
        obtain ⟨k, rfl, hk1, hB, hb⟩ := hrel
        have hBz := hB.lt
        have hlen : (joinL (ss.take (k + 1))).length ≤ 700000000 := by
          have h9 := joinL_len (ss.take (k + 1)) (fun x hx => Hz.out x (List.mem_of_mem_take hx))
          rw [List.length_take] at h9
          omega
        by_cases hlt2 : k + 1 < n
        · obtain ⟨b', off', x, hbo, Hx, d1⟩ := hA.at1 (k := k + 1) (by have := Hl.out; omega)
          injection hbo with hbo
          injection hbo with hb1 hb2
          subst hb1; subst hb2
          have hxz := Hz.out x (List.mem_of_getElem? Hx.out)
          have HJ := Lib.hid (joinL_step Hx.out)
          have hkI : (k : Int) < (n : Int) - 1 := by omega
          have e1 : wr.cell? ⟨b, off + 1 + k, none⟩ = some (.string x) := by
            rw [show off + 1 + k = off + (k + 1) by omega]; exact cell_keep d1 hb
          clear d1
          go_wp2_with fail
          refine (lWriteString_any w.heap.size (w.heap.size + 1) _ ⟨#[32]⟩ wr hB (by omega) (by show _ + 1 ≤ _; omega) hBz).mono ?_
          rintro e w3 ⟨rfl, hB3, hb3, _, _⟩
          have hb4 := hb.trans hb3
          have hB3z := hB3.lt
          clear hb hb3 hB e1
          go_wp2_with fail
          refine (lWriteString_any w.heap.size (w.heap.size + 1) _ x w3 hB3 (by omega) (by rw [List.length_append]; show _ + 1 + _ ≤ _; omega) hB3z).mono ?_
          rintro e w4 ⟨rfl, hB4, hb5, _, _⟩
          have hb6 := hb4.trans hb5
          rw [show joinL (ss.take (k + 1)) ++ (⟨#[32]⟩ : ByteArray).data.toList ++ x.data.toList = joinL (ss.take (k + 1 + 1)) from HJ.out.symm] at hB4
          clear hb4 hb5 hB3
          go_wp2
          go_roundw
          case rel => exact ⟨k + 1, by go_num, by omega, hB4, hb6⟩
          case measure => simp [intOf]; omega
        · have hk2 : k + 1 = n := by omega
          have HE := Lib.hid (show ss.take (k + 1) = ss from List.take_of_length_le (by have := Hl.out; omega))
          rw [HE.out] at hB
          have hkI : ¬ (k : Int) < (n : Int) - 1 := by omega
          clear hk2
          go_wp2_with fail
          refine (bString_any w.heap.size (w.heap.size + 1) _ wr hB (by omega)).mono ?_
          rintro e w3 ⟨rfl, hb4, _⟩
          go_wp2
          go_ret
          exact ⟨rfl, hb.trans hb4⟩
end Go.Proofs.YteelepiaegpkhaaGreatDoor
