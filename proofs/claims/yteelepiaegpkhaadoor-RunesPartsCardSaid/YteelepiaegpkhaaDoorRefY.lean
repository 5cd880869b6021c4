/-
  kerfref02.Trim, Runs, Keep.
-/
import Derived.Test.YteelepiaegpkhaaDoorRefU
import Derived.Test.YteelepiaegpkhaaDoorRunT
import Derived.Lib.AppendStr
import Derived.Lib.BufferRead
import Derived.Lib.UnsafeStr
namespace Go.Proofs.YteelepiaegpkhaaDoor
open Go.RowKit

/-- What Trim knows of the runes D at a text's end. -/
def trimD (s : ByteArray) (h : Int → Bool) (D : List (Nat × Nat × Nat)) : Nat × Nat :=
  (((D.filter fun x => !h x.1).head?.map (·.2.1)).getD s.size, ((D.filter fun x => !h x.1).getLast?.map (·.2.2)).getD s.size)
theorem trimD_in {s : ByteArray} {h : Int → Bool} {D : List (Nat × Nat × Nat)} {x : Nat × Nat × Nat} (hx : h x.1 = true) : trimD s h (x :: D) = trimD s h D := by
  unfold trimD; rw [List.filter_cons, hx]; rfl
theorem trimD_out {s : ByteArray} {h : Int → Bool} {D : List (Nat × Nat × Nat)} {x : Nat × Nat × Nat} (hx : h x.1 = false) (hb : ∀ y ∈ D, y.2.1 < s.size) :
    trimD s h (x :: D) = (x.2.1, if (trimD s h D).1 = s.size then x.2.2 else (trimD s h D).2) := by
  unfold trimD; rw [List.filter_cons, hx]
  simp only [Bool.not_false, if_true, List.head?_cons, Option.map_some, Option.getD_some]
  cases hf : D.filter fun x => !h x.1 with
  | nil => simp
  | cons y r =>
    have hy : y ∈ D := (List.mem_filter.1 (by rw [hf]; simp : y ∈ D.filter fun x => !h x.1)).1
    have := hb y hy
    rw [List.getLast?_cons_cons]
    have hne : ¬ y.2.1 = s.size := by omega
    simp [hne]
theorem trimD_bd {s : ByteArray} {h : Int → Bool} {D : List (Nat × Nat × Nat)} (hb : ∀ y ∈ D, y.2.1 < s.size ∧ y.2.2 ≤ s.size) : (trimD s h D).1 ≤ s.size ∧ (trimD s h D).2 ≤ s.size := by
  unfold trimD
  constructor
  · cases hf : (D.filter fun x => !h x.1).head? with
    | none => simp
    | some y => have := hb y (List.mem_filter.1 (List.mem_of_mem_head? hf)).1; simp; omega
  · cases hf : (D.filter fun x => !h x.1).getLast? with
    | none => simp
    | some y => have := hb y (List.mem_filter.1 (List.mem_of_getLast? hf)).1; simp; omega
theorem runesP_lt {s : ByteArray} : ∀ y ∈ runesP s, y.2.1 < s.size ∧ y.2.2 ≤ s.size := fun y hy => by have := runesP_bd y hy; omega

set_option maxRecDepth 100000 in
set_option maxHeartbeats 1000000 in
theorem sTrim_any (s : ByteArray) (A : Option Addr) (n c : Nat) (l : List (Int × Int)) (w : World) (hA : Rd w 2 A (l.map encR)) (hl : l.length = n) (hn : n ≤ 4000000) (hs : s.size ≤ 1000000) :
    Calls Tryd.prog 28 #[.string s, .slice A n c] w fun e w' => e = .returned (.tuple #[.int .i64 (trimP s l).1, .int .i64 (trimP s l).2]) ∧ Below w.heap.size w w' := by
  have Hl := Lib.hid hl
  have HLn := Lib.hid (runesP_len s)
  clear hl
  go_enter Tryd.func28, Tryd.ntmps28
  go_wp2_with fail
  refine (sRunes_any s _ hs).mono ?_
  rintro e w1 ⟨A1, n1, c1, rfl, ho1, hb1⟩
  have hn1 : n1 ≤ 1000000 := by have h1 := ho1.len; have h2 := HLn.out; simp at h1; omega
  have HLen := Lib.hid (show (runesP s).length = n1 by simpa using ho1.len)
  have hA1 := hA.below hb1
  go_wp2
  go_loopw [7, 8, 9] (fun a b i wr => ∃ k : Nat, k ≤ n1 ∧ i = .int .i64 ((k : Int) - 1) ∧ a = .int .i64 (trimD s (hasB l) ((runesP s).drop k)).1 ∧ b = .int .i64 (trimD s (hasB l) ((runesP s).drop k)).2 ∧ wr = w1)
    (fun _ _ i _ => (intOf i + 1).toNat)
  case atStart =>
    have h0 : (runesP s).drop n1 = [] := List.drop_of_length_le (by have := HLen.out; omega)
    exact ⟨n1, by omega, by first | rfl | go_num, by rw [h0]; rfl, by rw [h0]; rfl, rfl⟩
  case round =>
    obtain ⟨k, hk, rfl, rfl, rfl, rfl⟩ := hrel
    by_cases hk0 : 0 < k
    · obtain ⟨j, rfl⟩ : ∃ j, k = j + 1 := ⟨k - 1, by omega⟩
      obtain ⟨g, rfl, _, _⟩ := ho1.form (by omega)
      obtain ⟨⟨R, a, b⟩, HX⟩ : ∃ x, Hid ((runesP s)[j]? = some x) := ⟨_, Lib.hid (List.getElem?_eq_getElem (by have := HLen.out; omega))⟩
      have hbd := runesP_bd _ (List.mem_of_getElem? HX.out)
      simp only at hbd
      have hx : ((runesP s).map encRn)[j]? = some (encRn (R, a, b)) := by rw [List.getElem?_map, HX.out]; rfl
      have k0 := ho1.cell (k := j) (j := 0) (u := .int .i32 R) hx rfl
      have k1 := ho1.cell (k := j) (j := 1) (u := .int .i64 a) hx rfl
      have k2 := ho1.cell (k := j) (j := 2) (u := .int .i64 b) hx rfl
      simp only [Nat.add_zero] at k0
      have hdr : (runesP s).drop j = (R, a, b) :: (runesP s).drop (j + 1) := by
        have h := HX.out
        obtain ⟨hlt, he⟩ := List.getElem?_eq_some_iff.1 h
        rw [List.drop_eq_getElem_cons hlt, he]
      have htb := trimD_bd (h := hasB l) (D := (runesP s).drop (j + 1)) (fun y hy => runesP_lt y (List.mem_of_mem_drop hy))
      have ej : ((j + 1 : Nat) : Int) - 1 = (j : Int) := by omega
      rw [ej]
      cases hB : hasB l R with
      | true =>
        have HT := Lib.hid (trimD_in (s := s) (D := (runesP s).drop (j + 1)) (x := (R, a, b)) hB)
        rw [← hdr] at HT
        have hB := Lib.hid hB
        clear hx hdr ej
        go_wp2_with (go_at_call 23; go_must (refine (sHas_any A n c l R _ hA1 Hl.out hn).mono ?_); rintro e w4 ⟨rfl, rfl⟩; rw [hB.out])
        go_roundw
        case rel => exact ⟨j, by omega, by go_num, by rw [HT.out], by rw [HT.out], by first | rfl | trivial⟩
        case measure => first | (simp [intOf]; done) | (simp [intOf]; go_num)
      | false =>
        have HT := Lib.hid (trimD_out (s := s) (D := (runesP s).drop (j + 1)) (x := (R, a, b)) hB (fun y hy => (runesP_lt y (List.mem_of_mem_drop hy)).1))
        rw [← hdr] at HT
        have hB := Lib.hid hB
        clear hx hdr ej
        obtain ⟨f, t, hft⟩ : ∃ f t, trimD s (hasB l) ((runesP s).drop (j + 1)) = (f, t) := ⟨_, _, rfl⟩
        rw [hft] at HT htb ⊢
        simp only at HT htb ⊢
        clear hft
        by_cases hf : f = s.size
        · subst hf
          replace HT : Hid (trimD s (hasB l) ((runesP s).drop j) = (a, b)) := Lib.hid (HT.out.trans (by rw [if_pos rfl]))
          go_wp2_with (go_at_call 23; go_must (refine (sHas_any A n c l R _ hA1 Hl.out hn).mono ?_); rintro e w4 ⟨rfl, rfl⟩; rw [hB.out])
          go_roundw
          case rel => exact ⟨j, by omega, by go_num, by rw [HT.out], by rw [HT.out], by first | rfl | trivial⟩
          case measure => first | (simp [intOf]; done) | (simp [intOf]; go_num)
        · replace HT : Hid (trimD s (hasB l) ((runesP s).drop j) = (a, t)) := Lib.hid (HT.out.trans (by rw [if_neg hf]))
          have hne : ((f : Int) == (s.size : Int)) = false := by rw [beq_eq_false_iff_ne]; omega
          go_wp2_with (go_at_call 23; go_must (refine (sHas_any A n c l R _ hA1 Hl.out hn).mono ?_); rintro e w4 ⟨rfl, rfl⟩; rw [hB.out])
          go_roundw
          case rel => exact ⟨j, by omega, by go_num, by rw [HT.out], by rw [HT.out], by first | rfl | trivial⟩
          case measure => first | (simp [intOf]; done) | (simp [intOf]; go_num)
    · obtain rfl : k = 0 := by omega
      have HE : Hid (trimD s (hasB l) ((runesP s).drop 0) = trimP s l) := Lib.hid rfl
      go_wp2
      go_ret2
      exact ⟨rfl, hb1⟩
end Go.Proofs.YteelepiaegpkhaaDoor
