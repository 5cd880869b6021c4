/-
  grapheme: db, Class, ends, joins, walked. Printed by gen_ga.py.
-/
import Derived.Deep.CutRange
import Derived.Test.YtlbfbkdcjdeagaaGreatDoorYGraphemeWhole0a
import Derived.Test.YtlbfbkdcjdeagaaGreatDoorZWh
namespace Go.Proofs.YtlbfbkdcjdeagaaGreatDoor
open Go.RowKit

set_option maxRecDepth 100000 in
set_option maxHeartbeats 4000000 in
theorem gdb_any (w : World) (hE : Env w) :
    Calls Tryz.prog 79 #[] w fun e w' => ∃ p, e = .returned (.pointer (some ⟨p, 0, none⟩)) ∧ DbAt w' p graphsD ∧ Below w.heap.size w w' := by
  go_enter Tryz.func79, Tryz.ntmps79
  generalize hT : ByteArray.mk _ = T
  have HN : newP T.data.toList = .ok graphsD := by rw [← hT]; exact new_K (by kernel_rfl) (by kernel_rfl)
  have hTl : T.data.toList.length ≤ maxLen := by rw [← hT]; exact of_decide_eq_true (by kernel_rfl)
  clear hT
  have HC := wNew_any T.data.toList w hE hTl
  rw [HN, show bytesOf T.data.toList = T from bytesOf_data T] at HC
  replace HC := Lib.hid HC
  clear HN hTl
  go_wp2_with fail
  refine HC.out.mono ?_
  rintro e w1 ⟨⟨p, rfl, hd⟩, hb1⟩
  go_wp2
  go_ret
  exact ⟨p, rfl, hd, hb1⟩
set_option maxHeartbeats 1000000 in
theorem gClass_any (r : Int) (w : World) (hE : Env w) : Calls Tryz.prog 42 #[.int .i32 r] w fun e w' => e = .returned (.int .i64 (gG r : Nat)) ∧ Below w.heap.size w w' := by
  have HC := Lib.hid (gdb_any w hE)
  go_enter Tryz.func42, Tryz.ntmps42
  go_wp2_with fail
  refine HC.out.mono ?_
  rintro e w1 ⟨p, rfl, hd, hb1⟩
  have HG := Lib.hid (wGet_any p graphsD r w1 hd graphsOk.1 graphsOk.2.1)
  obtain ⟨k, Hk⟩ : ∃ k, Hid (graphsD.get r = k) := ⟨_, Lib.hid rfl⟩
  rw [Hk.out] at HG
  go_wp2_with fail
  refine HG.out.mono ?_
  rintro e w2 ⟨rfl, hb2⟩
  go_wp2
  go_ret
  exact ⟨by rw [show gG r = k from Hk.out]; rfl, below_two hb1 hb2⟩
def endZ (c : Int) : Bool := c == 1 || c == 2 || c == 3
set_option maxHeartbeats 400000 in
theorem gends_any (c : Int) (w : World) : Calls Tryz.prog 150 #[.int .i64 c] w fun e w' => e = .returned (.bool (endZ c)) ∧ w = w' := by
  rcases (by omega : c = 1 ∨ c = 2 ∨ c = 3 ∨ (c ≠ 1 ∧ c ≠ 2 ∧ c ≠ 3)) with rfl | rfl | rfl | ⟨h1, h2, h3⟩
  iterate 3
    · go_enter Tryz.func150, Tryz.ntmps150
      go_wp2
      go_ret
      exact ⟨rfl, rfl⟩
  · have HV : Hid (endZ c = false) := Lib.hid (by simp [endZ, h1, h2, h3])
    have e1 := beq_eq_false_iff_ne.2 h1
    have e2 := beq_eq_false_iff_ne.2 h2
    have e3 := beq_eq_false_iff_ne.2 h3
    clear h1 h2 h3
    go_enter Tryz.func150, Tryz.ntmps150
    go_wp2
    go_ret
    exact ⟨by rw [HV.out]; rfl, rfl⟩
/-- joinG over Int. -/
def joinZ (x y : Int) : Bool :=
  if (x == 1) && (y == 2) then true
  else if endZ x || endZ y then false
  else if ((y == 4) || (y == 5) || (y == 6) || (x == 7)) then true
  else if x == 8 then (y == 8) || (y == 9) || (y == 11)
  else if (x == 9) || (x == 11) then (y == 9) || (y == 10)
  else (x == 10) && (y == 10)
theorem joinZ_eq : ∀ x : Nat, x < 14 → ∀ y : Nat, y < 14 → joinZ (x : Int) (y : Int) = joinG x y := by decide
set_option maxRecDepth 100000 in
set_option maxHeartbeats 8000000 in
theorem gjoins_any (x y : Int) (w : World) : Calls Tryz.prog 114 #[.int .i64 x, .int .i64 y] w fun e w' => e = .returned (.bool (joinZ x y)) ∧ w = w' := by
  obtain ⟨x1, H1⟩ : ∃ b, Hid (((x == 1) && (y == 2)) = b) := ⟨_, Lib.hid rfl⟩
  obtain ⟨x2, H2⟩ : ∃ b, Hid (((endZ x) || (endZ y)) = b) := ⟨_, Lib.hid rfl⟩
  obtain ⟨x3, H3⟩ : ∃ b, Hid (((y == 4) || (y == 5) || (y == 6) || (x == 7)) = b) := ⟨_, Lib.hid rfl⟩
  have HW : Hid (joinZ x y = if x1 then true else if x2 then false else if x3 then true else if x == 8 then ((y == 8) || (y == 9) || (y == 11)) else if ((x == 9) || (x == 11)) then ((y == 9) || (y == 10)) else ((x == 10) && (y == 10))) := Lib.hid (by rw [← H1.out, ← H2.out, ← H3.out]; rfl)
  go_enter Tryz.func114, Tryz.ntmps114
  go_upto_region 1 with fail
  go_cut [5] from 5 (fun v wx => v = .bool x1 ∧ w = wx)
  case first =>
    cases h1 : (x == 1) with
    | true =>
      cases h2 : (y == 2) with
      | true =>
        go_wp2_with fail
        go_meet
        exact ⟨by rw [← H1.out, h1, h2] <;> rfl, rfl⟩
      | false =>
        go_wp2_with fail
        go_meet
        exact ⟨by rw [← H1.out, h1, h2] <;> rfl, rfl⟩
    | false =>
      go_wp2_with fail
      go_meet
      exact ⟨by rw [← H1.out, h1] <;> rfl, rfl⟩
  case rest =>
    obtain ⟨rfl, rfl⟩ := hcut
    cases x1 with
    | true =>
      go_wp2
      go_ret
      exact ⟨by rw [HW.out]; simp, rfl⟩
    | false =>
      go_upto_region 3 with fail
      go_cut [12] from 5 (fun v wx => v = .bool x2 ∧ w = wx)
      case first =>
        cases h1 : (endZ x) with
        | true =>
          go_wp2_with fail
          refine (gends_any _ _).mono ?_
          rw [h1]
          rintro e wn ⟨rfl, rfl⟩
          go_wp2_with fail
          go_meet
          exact ⟨by rw [← H2.out, h1] <;> rfl, rfl⟩
        | false =>
          cases h2 : (endZ y) with
          | true =>
            go_wp2_with fail
            refine (gends_any _ _).mono ?_
            rw [h1]
            rintro e wn ⟨rfl, rfl⟩
            go_wp2_with fail
            refine (gends_any _ _).mono ?_
            rw [h2]
            rintro e wn ⟨rfl, rfl⟩
            go_wp2_with fail
            go_meet
            exact ⟨by rw [← H2.out, h1, h2] <;> rfl, rfl⟩
          | false =>
            go_wp2_with fail
            refine (gends_any _ _).mono ?_
            rw [h1]
            rintro e wn ⟨rfl, rfl⟩
            go_wp2_with fail
            refine (gends_any _ _).mono ?_
            rw [h2]
            rintro e wn ⟨rfl, rfl⟩
            go_wp2_with fail
            go_meet
            exact ⟨by rw [← H2.out, h1, h2] <;> rfl, rfl⟩
      case rest =>
        obtain ⟨rfl, rfl⟩ := hcut
        cases x2 with
        | true =>
          go_wp2
          go_ret
          exact ⟨by rw [HW.out]; simp, rfl⟩
        | false =>
          go_upto_region 5 with fail
          go_cut [19] from 5 (fun v wx => v = .bool x3 ∧ w = wx)
          case first =>
            cases h1 : (y == 4) with
            | true =>
              go_wp2_with fail
              go_meet
              exact ⟨by rw [← H3.out, h1] <;> rfl, rfl⟩
            | false =>
              cases h2 : (y == 5) with
              | true =>
                go_wp2_with fail
                go_meet
                exact ⟨by rw [← H3.out, h1, h2] <;> rfl, rfl⟩
              | false =>
                cases h3 : (y == 6) with
                | true =>
                  go_wp2_with fail
                  go_meet
                  exact ⟨by rw [← H3.out, h1, h2, h3] <;> rfl, rfl⟩
                | false =>
                  cases h4 : (x == 7) with
                  | true =>
                    go_wp2_with fail
                    go_meet
                    exact ⟨by rw [← H3.out, h1, h2, h3, h4] <;> rfl, rfl⟩
                  | false =>
                    go_wp2_with fail
                    go_meet
                    exact ⟨by rw [← H3.out, h1, h2, h3, h4] <;> rfl, rfl⟩
          case rest =>
            obtain ⟨rfl, rfl⟩ := hcut
            cases x3 with
            | true =>
              go_wp2
              go_ret
              exact ⟨by rw [HW.out]; simp, rfl⟩
            | false =>
              cases h1 : (x == 8) with
              | true =>
                cases h2 : (y == 8) with
                | true =>
                  go_wp2
                  go_ret
                  exact ⟨by rw [HW.out]; simp [h1, h2], rfl⟩
                | false =>
                  cases h3 : (y == 9) with
                  | true =>
                    go_wp2
                    go_ret
                    exact ⟨by rw [HW.out]; simp [h1, h2, h3], rfl⟩
                  | false =>
                    cases h4 : (y == 11) with
                    | true =>
                      go_wp2
                      go_ret
                      exact ⟨by rw [HW.out]; simp [h1, h2, h3, h4], rfl⟩
                    | false =>
                      go_wp2
                      go_ret
                      exact ⟨by rw [HW.out]; simp [h1, h2, h3, h4], rfl⟩
              | false =>
                cases h2 : (x == 9) with
                | true =>
                  cases h3 : (y == 9) with
                  | true =>
                    go_wp2
                    go_ret
                    exact ⟨by rw [HW.out]; simp [h1, h2, h3], rfl⟩
                  | false =>
                    cases h4 : (y == 10) with
                    | true =>
                      go_wp2
                      go_ret
                      exact ⟨by rw [HW.out]; simp [h1, h2, h3, h4], rfl⟩
                    | false =>
                      go_wp2
                      go_ret
                      exact ⟨by rw [HW.out]; simp [h1, h2, h3, h4], rfl⟩
                | false =>
                  cases h3 : (x == 11) with
                  | true =>
                    cases h4 : (y == 9) with
                    | true =>
                      go_wp2
                      go_ret
                      exact ⟨by rw [HW.out]; simp [h1, h2, h3, h4], rfl⟩
                    | false =>
                      cases h5 : (y == 10) with
                      | true =>
                        go_wp2
                        go_ret
                        exact ⟨by rw [HW.out]; simp [h1, h2, h3, h4, h5], rfl⟩
                      | false =>
                        go_wp2
                        go_ret
                        exact ⟨by rw [HW.out]; simp [h1, h2, h3, h4, h5], rfl⟩
                  | false =>
                    cases h4 : (x == 10) with
                    | true =>
                      cases h5 : (y == 10) with
                      | true =>
                        go_wp2
                        go_ret
                        exact ⟨by rw [HW.out]; simp [h1, h2, h3, h4, h5], rfl⟩
                      | false =>
                        go_wp2
                        go_ret
                        exact ⟨by rw [HW.out]; simp [h1, h2, h3, h4, h5], rfl⟩
                    | false =>
                      go_wp2
                      go_ret
                      exact ⟨by rw [HW.out]; simp [h1, h2, h3, h4], rfl⟩
end Go.Proofs.YtlbfbkdcjdeagaaGreatDoor

