/-
  runes.Count, At, Index.
-/
import Derived.Test.YteelepiaegpkhaaGreatDoorRunC
import Derived.Test.YteelepiaegpkhaaGreatDoorRefD
namespace Go.Proofs.YteelepiaegpkhaaGreatDoor
open Go.RowKit
set_option maxHeartbeats 400000 in
theorem rAt_any (A : Option Addr) (n c : Nat) (l : List (Int × Int)) (i : Int) (w : World) (hA : Rd w 2 A (l.map encR)) (hl : l.length = n) (hn : n ≤ 4000000) (hi1 : i ≤ 9223372036854775807) :
    Calls Tryz.prog 14 #[.slice A n c, .int .i64 i] w fun e w' => e = .returned (.tuple #[.int .i32 (atR l i).1, .bool (atR l i).2]) ∧ RowKit.Below w.heap.size w w' := by
  have Hl := Lib.hid hl
  clear hl
  have HNF := Lib.hid (normR_NF l)
  by_cases hi0 : i < 0
  · have HE : Hid (atR l i = (0, false)) := if_pos hi0
    go_enter Tryz.func14, Tryz.ntmps14
    go_wp2
    go_ret2
    exact ⟨ret_at (by rw [HE.out]) _, RowKit.Below.refl _ _⟩
  · have hi0' : 0 ≤ i := by omega
    have HI : Hid (atR l i = atGo (normR l) i) := if_neg hi0
    clear hi0
    go_enter Tryz.func14, Tryz.ntmps14
    go_wp2_with (go_at_call 11; go_must (refine (rNorm_any A n c l _ hA Hl.out hn).mono ?_); rintro e w1 ⟨A1, n1, c1, rfl, ho1, hb1⟩)
    have hn1 := own_nf_len ho1 HNF.out
    have hrd := ho1.rd (by omega)
    have Hn1 : Hid ((normR l).length = n1) := Lib.hid (by simpa using ho1.len)
    clear ho1
    go_loopw [1, 14] (fun v i2 wr => ∃ (k : Nat) (m : Int), k ≤ n1 ∧ v = .int .i64 m ∧ 0 ≤ m ∧ m ≤ 9223372036854775807 ∧ i2 = .int .i64 k ∧ Hid (atGo ((normR l).drop k) m = atR l i) ∧ RowKit.Below w1.heap.size w1 wr) (fun _ i _ => n1 - (intOf i).toNat)
    case atStart => exact ⟨0, i, by omega, rfl, hi0', hi1, rfl, HI.out.symm, RowKit.Below.refl _ _⟩
    case round =>
      obtain ⟨k, m, hk, rfl, hm0, hm1, rfl, Hm, hb⟩ := hrel
      by_cases hlt : k < n1
      · obtain ⟨b, off, lo, hi, rfl, Hx, hc1, hc2⟩ := hrd.atR (k := k) (by have := Hn1.out; omega)
        have hr1 := cell_keep hc1 hb
        have hr2 := cell_keep hc2 hb
        obtain ⟨hb0, hb1', hb2⟩ : 0 ≤ lo ∧ lo ≤ hi ∧ hi ≤ 1114111 := by
          have hm := List.mem_of_getElem? Hx.out
          have := HNF.out.2 _ hm; have := Nf_le HNF.out.1 _ hm; simp only at *; omega
        have HD := Lib.hid (drop_cons_of Hx.out)
        by_cases hc : m < hi - lo + 1
        · have HE : Hid (atR l i = (lo + m, true)) := Lib.hid (by rw [← Hm.out, HD.out, atGo_cons, if_pos hc])
          have hw1 : IntKind.i32.wrap m = m := IntWalk.i32_in _ (by omega)
          go_wp2
          go_ret2
          exact ⟨ret_at (by rw [HE.out]) _, below_two hb1 (hb.alloc hb.size _)⟩
        · have HE : Hid (atGo ((normR l).drop (k + 1)) (m - (hi - lo + 1)) = atR l i) := Lib.hid (by rw [← Hm.out, HD.out, atGo_cons, if_neg hc])
          have hge : hi - lo + 1 ≤ m := by omega
          clear hc
          go_wp2
          go_roundw
          case rel => exact ⟨k + 1, m - (hi - lo + 1), by omega, rfl, by omega, by omega, by go_num, HE, hb.alloc hb.size _⟩
          case measure => simp [intOf]; omega
      · have HE : Hid (atR l i = (0, false)) := Lib.hid (by rw [← Hm.out, List.drop_of_length_le (by have := Hn1.out; omega)]; rfl)
        go_wp2
        go_ret2
        exact ⟨ret_at (by rw [HE.out]) _, below_two hb1 hb⟩

end Go.Proofs.YteelepiaegpkhaaGreatDoor
