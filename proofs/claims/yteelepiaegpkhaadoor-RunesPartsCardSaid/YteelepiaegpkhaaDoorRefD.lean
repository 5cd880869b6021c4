/-
  kerfref02.Count, At, Index.
-/
import Derived.Test.YteelepiaegpkhaaDoorRefC
namespace Go.Proofs.YteelepiaegpkhaaDoor
open Go.RowKit

theorem ret_at {a b : Int} {c d : Bool} (h : (a, c) = (b, d)) (k : IntKind) : Ending.returned (.tuple #[.int k a, .bool c]) = .returned (.tuple #[.int k b, .bool d]) := by cases h; rfl

set_option maxHeartbeats 400000 in
theorem sCount_any (A : Option Addr) (n c : Nat) (l : List (Int × Int)) (w : World) (hA : Rd w 2 A (l.map encR)) (hl : l.length = n) (hn : n ≤ 4000000) :
    Calls Tryd.prog 25 #[.slice A n c] w fun e w' => e = .returned (.int .i64 (countR l)) ∧ Below w.heap.size w w' := by
  have Hl := Lib.hid hl
  clear hl
  have HNF := Lib.hid (normR_NF l)
  go_enter Tryd.func25, Tryd.ntmps25
  go_wp2_with (go_at_call 18; go_must (refine (sNorm_any A n c l _ hA Hl.out hn).mono ?_); rintro e w1 ⟨A1, n1, c1, rfl, ho1, hb1⟩)
  have hn1 := own_nf_len ho1 HNF.out
  have hrd := ho1.rd (by omega)
  have Hn1 : Hid ((normR l).length = n1) := Lib.hid (by simpa using ho1.len)
  clear ho1
  go_loopw [4, 5] (fun v i wr => ∃ (k : Nat) (m : Int) (q : Nat), k ≤ n1 ∧ v = .int .i64 m ∧ i = .int .i64 k ∧ Hid (m = cntR ((normR l).take k)) ∧ wr = w1.drewN q) (fun _ i _ => n1 - (intOf i).toNat)
  case atStart => exact ⟨0, 0, 0, by omega, rfl, rfl, rfl, rfl⟩
  case round =>
    obtain ⟨k, m, q, hk, rfl, rfl, Hm, rfl⟩ := hrel
    by_cases hlt : k < n1
    · obtain ⟨b, off, lo, hi, rfl, Hx, hc1, hc2⟩ := hrd.atR (k := k) (by have := Hn1.out; omega)
      obtain ⟨hb0, hb1', hb2⟩ : 0 ≤ lo ∧ lo ≤ hi ∧ hi ≤ 1114111 := by
        have hm := List.mem_of_getElem? Hx.out
        have := HNF.out.2 _ hm; have := Nf_le HNF.out.1 _ hm; simp only at *; omega
      have HT := Lib.hid (cntR_take Hx.out)
      obtain ⟨hm0, hm1⟩ : 0 ≤ m ∧ m ≤ 1114112 := by rw [Hm.out]; exact (HNF.out.take k).cnt
      have hwa : IntKind.i32.wrap (hi - lo) = hi - lo := IntWalk.i32_in _ (by omega)
      have hwb : IntKind.i64.wrap (hi - lo) = hi - lo := IntWalk.i64_in _ (by omega)
      have hwc : IntKind.i64.wrap (m + (hi - lo)) = m + (hi - lo) := IntWalk.i64_in _ (by omega)
      have hwd : IntKind.i64.wrap (m + (hi - lo) + 1) = m + (hi - lo) + 1 := IntWalk.i64_in _ (by omega)
      go_wp2_with fail
      go_quiet (fail)
      clear hwa hwb hwc hwd
      go_wp2
      go_roundw
      case rel => exact ⟨k + 1, m + (hi - lo) + 1, _, by omega, rfl, by go_num, Lib.hid (by rw [HT.out, Hm.out]), rfl⟩
      case measure => simp [intOf]; omega
    · have HE : Hid (m = countR l) := Lib.hid (by rw [Hm.out, List.take_of_length_le (by have := Hn1.out; omega)]; rfl)
      go_wp2
      go_ret
      exact ⟨ret_int HE.out, below_drewN hb1 _⟩

set_option maxHeartbeats 400000 in
theorem sAt_any (A : Option Addr) (n c : Nat) (l : List (Int × Int)) (i : Int) (w : World) (hA : Rd w 2 A (l.map encR)) (hl : l.length = n) (hn : n ≤ 4000000) (hi1 : i ≤ 9223372036854775807) :
    Calls Tryd.prog 26 #[.slice A n c, .int .i64 i] w fun e w' => e = .returned (.tuple #[.int .i32 (atR l i).1, .bool (atR l i).2]) ∧ Below w.heap.size w w' := by
  have Hl := Lib.hid hl
  clear hl
  have HNF := Lib.hid (normR_NF l)
  by_cases hi0 : i < 0
  · have HE : Hid (atR l i = (0, false)) := if_pos hi0
    go_enter Tryd.func26, Tryd.ntmps26
    go_wp2_with (go_at_call 18; go_must (refine (sNorm_any A n c l _ hA Hl.out hn).mono ?_); rintro e w1 ⟨A1, n1, c1, rfl, ho1, hb1⟩)
    go_ret2
    exact ⟨ret_at (by rw [HE.out]) _, hb1⟩
  · have hi0' : 0 ≤ i := by omega
    have HI : Hid (atR l i = atGo (normR l) i) := if_neg hi0
    clear hi0
    go_enter Tryd.func26, Tryd.ntmps26
    go_wp2_with (go_at_call 18; go_must (refine (sNorm_any A n c l _ hA Hl.out hn).mono ?_); rintro e w1 ⟨A1, n1, c1, rfl, ho1, hb1⟩)
    have hn1 := own_nf_len ho1 HNF.out
    have hrd := ho1.rd (by omega)
    have Hn1 : Hid ((normR l).length = n1) := Lib.hid (by simpa using ho1.len)
    clear ho1
    go_loopw [1, 7] (fun v i2 wr => ∃ (k : Nat) (m : Int) (q : Nat), k ≤ n1 ∧ v = .int .i64 m ∧ 0 ≤ m ∧ m ≤ 9223372036854775807 ∧ i2 = .int .i64 k ∧ Hid (atGo ((normR l).drop k) m = atR l i) ∧ wr = w1.drewN q) (fun _ i _ => n1 - (intOf i).toNat)
    case atStart => exact ⟨0, i, 0, by omega, rfl, hi0', hi1, rfl, HI.out.symm, rfl⟩
    case round =>
      obtain ⟨k, m, q, hk, rfl, hm0, hm1, rfl, Hm, rfl⟩ := hrel
      by_cases hlt : k < n1
      · obtain ⟨b, off, lo, hi, rfl, Hx, hc1, hc2⟩ := hrd.atR (k := k) (by have := Hn1.out; omega)
        obtain ⟨hb0, hb1', hb2⟩ : 0 ≤ lo ∧ lo ≤ hi ∧ hi ≤ 1114111 := by
          have hm := List.mem_of_getElem? Hx.out
          have := HNF.out.2 _ hm; have := Nf_le HNF.out.1 _ hm; simp only at *; omega
        have HD := Lib.hid (drop_cons_of Hx.out)
        have hwa : IntKind.i32.wrap (hi - lo) = hi - lo := IntWalk.i32_in _ (by omega)
        have hwb : IntKind.i64.wrap (hi - lo) = hi - lo := IntWalk.i64_in _ (by omega)
        have hwc : IntKind.i64.wrap (hi - lo + 1) = hi - lo + 1 := IntWalk.i64_in _ (by omega)
        go_wp2_with fail
        go_quiet (fail)
        clear hwa hwb hwc
        by_cases hc : m < hi - lo + 1
        · have HE : Hid (atR l i = (lo + m, true)) := Lib.hid (by rw [← Hm.out, HD.out, atGo_cons, if_pos hc])
          have hw1 : IntKind.i32.wrap m = m := IntWalk.i32_in _ (by omega)
          go_wp2
          go_ret2
          exact ⟨ret_at (by rw [HE.out]) _, below_drewN hb1 _⟩
        · have HE : Hid (atGo ((normR l).drop (k + 1)) (m - (hi - lo + 1)) = atR l i) := Lib.hid (by rw [← Hm.out, HD.out, atGo_cons, if_neg hc])
          have hge : hi - lo + 1 ≤ m := by omega
          clear hc
          go_wp2
          go_roundw
          case rel => exact ⟨k + 1, m - (hi - lo + 1), _, by omega, rfl, by omega, by omega, by go_num, HE, rfl⟩
          case measure => simp [intOf]; omega
      · have HE : Hid (atR l i = (0, false)) := Lib.hid (by rw [← Hm.out, List.drop_of_length_le (by have := Hn1.out; omega)]; rfl)
        go_wp2
        go_ret2
        exact ⟨ret_at (by rw [HE.out]) _, below_drewN hb1 _⟩

set_option maxHeartbeats 400000 in
theorem sIndex_any (A : Option Addr) (n c : Nat) (l : List (Int × Int)) (r : Int) (w : World) (hA : Rd w 2 A (l.map encR)) (hl : l.length = n) (hn : n ≤ 4000000) :
    Calls Tryd.prog 46 #[.slice A n c, .int .i32 r] w fun e w' => e = .returned (.tuple #[.int .i64 (ixR l r).1, .bool (ixR l r).2]) ∧ Below w.heap.size w w' := by
  have Hl := Lib.hid hl
  clear hl
  have HNF := Lib.hid (normR_NF l)
  go_enter Tryd.func46, Tryd.ntmps46
  go_wp2_with (go_at_call 18; go_must (refine (sNorm_any A n c l _ hA Hl.out hn).mono ?_); rintro e w1 ⟨A1, n1, c1, rfl, ho1, hb1⟩)
  have hn1 := own_nf_len ho1 HNF.out
  have hrd := ho1.rd (by omega)
  have Hn1 : Hid ((normR l).length = n1) := Lib.hid (by simpa using ho1.len)
  clear ho1
  go_loopw [7, 8] (fun v i2 wr => ∃ (k : Nat) (m : Int) (q : Nat), k ≤ n1 ∧ v = .int .i64 m ∧ i2 = .int .i64 k ∧ Hid (m = cntR ((normR l).take k)) ∧ Hid (ixGo r ((normR l).drop k) m = ixR l r) ∧ wr = w1.drewN q) (fun _ i _ => n1 - (intOf i).toNat)
  case atStart => exact ⟨0, 0, 0, by omega, rfl, rfl, rfl, rfl, rfl⟩
  case round =>
    obtain ⟨k, m, q, hk, rfl, rfl, Hm, HI, rfl⟩ := hrel
    by_cases hlt : k < n1
    · obtain ⟨b, off, lo, hi, rfl, Hx, hc1, hc2⟩ := hrd.atR (k := k) (by have := Hn1.out; omega)
      obtain ⟨hb0, hb1', hb2⟩ : 0 ≤ lo ∧ lo ≤ hi ∧ hi ≤ 1114111 := by
        have hm := List.mem_of_getElem? Hx.out
        have := HNF.out.2 _ hm; have := Nf_le HNF.out.1 _ hm; simp only at *; omega
      have HD := Lib.hid (drop_cons_of Hx.out)
      have HT := Lib.hid (cntR_take Hx.out)
      obtain ⟨hm0, hm1⟩ : 0 ≤ m ∧ m ≤ 1114112 := by rw [Hm.out]; exact (HNF.out.take k).cnt
      rcases (by omega : (lo ≤ r ∧ r ≤ hi) ∨ (lo ≤ r ∧ hi < r) ∨ r < lo) with ⟨h1, h2⟩ | ⟨h1, h2⟩ | h1
      · have HE : Hid (ixR l r = (m + (r - lo), true)) := Lib.hid (by rw [← HI.out, HD.out, ixGo_cons, if_pos ⟨h1, h2⟩])
        go_wp2
        go_ret2
        exact ⟨ret_at (by rw [HE.out]) _, below_drewN hb1 _⟩
      all_goals
        have HE : Hid (ixGo r ((normR l).drop (k + 1)) (m + (hi - lo) + 1) = ixR l r) := Lib.hid (by rw [← HI.out, HD.out, ixGo_cons, if_neg (by simp only; omega)])
        go_wp2_with fail
        have hwa : IntKind.i32.wrap (hi - lo) = hi - lo := IntWalk.i32_in _ (by omega)
        have hwb : IntKind.i64.wrap (hi - lo) = hi - lo := IntWalk.i64_in _ (by omega)
        have hwc : IntKind.i64.wrap (m + (hi - lo)) = m + (hi - lo) := IntWalk.i64_in _ (by omega)
        have hwd : IntKind.i64.wrap (m + (hi - lo) + 1) = m + (hi - lo) + 1 := IntWalk.i64_in _ (by omega)
        go_quiet (fail)
        clear hwa hwb hwc hwd
        go_wp2
        go_roundw
        case rel => exact ⟨k + 1, m + (hi - lo) + 1, _, by omega, rfl, by go_num, Lib.hid (by rw [HT.out, Hm.out]), HE, rfl⟩
        case measure => simp [intOf]; omega
    · have HE : Hid (ixR l r = (0, false)) := Lib.hid (by rw [← HI.out, List.drop_of_length_le (by have := Hn1.out; omega)]; rfl)
      go_wp2
      go_ret2
      exact ⟨ret_at (by rw [HE.out]) _, below_drewN hb1 _⟩
end Go.Proofs.YteelepiaegpkhaaDoor
