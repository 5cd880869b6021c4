/-
  word.Is, kerflaw12.glued, marks, walked. Printed by gen_wo.py.
-/
import Derived.Deep.CutRange
import Derived.Test.YthlnfefpdmecaaaGreatDoorYWordFlags1a
namespace Go.Proofs.YthlnfefpdmecaaaGreatDoor
open Go.RowKit

def gluedV (A B : ByteArray) : Bool :=
  ((((A.toList == [76, 101, 116, 116, 101, 114]) || (A.toList == [72, 101, 98, 114, 101, 119])) && ((B.toList == [76, 101, 116, 116, 101, 114]) || (B.toList == [72, 101, 98, 114, 101, 119]))) || ((A.toList == [68, 105, 103, 105, 116]) && (B.toList == [68, 105, 103, 105, 116])) || (((A.toList == [76, 101, 116, 116, 101, 114]) || (A.toList == [72, 101, 98, 114, 101, 119])) && (B.toList == [68, 105, 103, 105, 116])) || ((A.toList == [68, 105, 103, 105, 116]) && ((B.toList == [76, 101, 116, 116, 101, 114]) || (B.toList == [72, 101, 98, 114, 101, 119]))) || ((A.toList == [75, 97, 116, 97, 107, 97, 110, 97]) && (B.toList == [75, 97, 116, 97, 107, 97, 110, 97]))) ||
  (((B.toList == [69, 120, 116, 101, 110, 100]) || (B.toList == [70, 111, 114, 109, 97, 116]) || (B.toList == [90, 119, 106])) && (A.toList != [78, 101, 119, 108, 105, 110, 101]) && (A.toList != [67, 114]) && (A.toList != [76, 102]))
def marksV (A : ByteArray) : Bool := (A.toList == [69, 120, 116, 101, 110, 100]) || (A.toList == [70, 111, 114, 109, 97, 116]) || (A.toList == [90, 119, 106])
set_option maxRecDepth 100000 in
set_option maxHeartbeats 8000000 in
theorem kmarks_any (A : ByteArray) (w : World) : Calls Tryz.prog 26 #[.string A] w fun e w' => e = .returned (.bool (marksV A)) ∧ w = w' := by
  go_enter Tryz.func26, Tryz.ntmps26
  cases h1 : (A.toList == [69, 120, 116, 101, 110, 100]) with
  | true =>
    go_wp2
    go_ret
    exact ⟨by unfold marksV; rw [h1]; rfl, rfl⟩
  | false =>
    cases h2 : (A.toList == [70, 111, 114, 109, 97, 116]) with
    | true =>
      go_wp2
      go_ret
      exact ⟨by unfold marksV; rw [h1, h2]; rfl, rfl⟩
    | false =>
      cases h3 : (A.toList == [90, 119, 106]) with
      | true =>
        go_wp2
        go_ret
        exact ⟨by unfold marksV; rw [h1, h2, h3]; rfl, rfl⟩
      | false =>
        go_wp2
        go_ret
        exact ⟨by unfold marksV; rw [h1, h2, h3]; rfl, rfl⟩
set_option maxRecDepth 100000 in
set_option maxHeartbeats 16000000 in
theorem kglued_any (A B : ByteArray) (w : World) : Calls Tryz.prog 25 #[.string A, .string B] w fun e w' => e = .returned (.bool (gluedV A B)) ∧ w = w' := by
  obtain ⟨x1, H1⟩ : ∃ x, Hid (((A.toList == [76, 101, 116, 116, 101, 114]) || (A.toList == [72, 101, 98, 114, 101, 119])) = x) := ⟨_, Lib.hid rfl⟩
  obtain ⟨x2, H2⟩ : ∃ x, Hid (((B.toList == [76, 101, 116, 116, 101, 114]) || (B.toList == [72, 101, 98, 114, 101, 119])) = x) := ⟨_, Lib.hid rfl⟩
  obtain ⟨x3, H3⟩ : ∃ x, Hid (((x1 && x2) || ((A.toList == [68, 105, 103, 105, 116]) && (B.toList == [68, 105, 103, 105, 116])) || (x1 && (B.toList == [68, 105, 103, 105, 116])) || ((A.toList == [68, 105, 103, 105, 116]) && x2) || ((A.toList == [75, 97, 116, 97, 107, 97, 110, 97]) && (B.toList == [75, 97, 116, 97, 107, 97, 110, 97]))) = x) := ⟨_, Lib.hid rfl⟩
  obtain ⟨x4, H4⟩ : ∃ x, Hid ((((B.toList == [69, 120, 116, 101, 110, 100]) || (B.toList == [70, 111, 114, 109, 97, 116]) || (B.toList == [90, 119, 106])) && (A.toList != [78, 101, 119, 108, 105, 110, 101]) && (A.toList != [67, 114]) && (A.toList != [76, 102])) = x) := ⟨_, Lib.hid rfl⟩
  have HW : Hid (gluedV A B = (x3 || x4)) := Lib.hid (by rw [← H3.out, ← H4.out, ← H1.out, ← H2.out]; rfl)
  go_enter Tryz.func25, Tryz.ntmps25
  go_upto_region 1 with fail
  go_cut [5, 6] from 5 (fun v u wx => v = .bool x1 ∧ u = .bool x2 ∧ w = wx)
  case first =>
    cases h1 : (A.toList == [76, 101, 116, 116, 101, 114]) with
    | true =>
      cases h2 : (B.toList == [76, 101, 116, 116, 101, 114]) with
      | true =>
        go_wp2
        go_meet
        exact ⟨by rw [← H1.out, h1]; rfl, by rw [← H2.out, h2]; rfl, rfl⟩
      | false =>
        cases h3 : (B.toList == [72, 101, 98, 114, 101, 119]) with
        | true =>
          go_wp2
          go_meet
          exact ⟨by rw [← H1.out, h1]; rfl, by rw [← H2.out, h2, h3]; rfl, rfl⟩
        | false =>
          go_wp2
          go_meet
          exact ⟨by rw [← H1.out, h1]; rfl, by rw [← H2.out, h2, h3]; rfl, rfl⟩
    | false =>
      cases h2 : (A.toList == [72, 101, 98, 114, 101, 119]) with
      | true =>
        cases h3 : (B.toList == [76, 101, 116, 116, 101, 114]) with
        | true =>
          go_wp2
          go_meet
          exact ⟨by rw [← H1.out, h1, h2]; rfl, by rw [← H2.out, h3]; rfl, rfl⟩
        | false =>
          cases h4 : (B.toList == [72, 101, 98, 114, 101, 119]) with
          | true =>
            go_wp2
            go_meet
            exact ⟨by rw [← H1.out, h1, h2]; rfl, by rw [← H2.out, h3, h4]; rfl, rfl⟩
          | false =>
            go_wp2
            go_meet
            exact ⟨by rw [← H1.out, h1, h2]; rfl, by rw [← H2.out, h3, h4]; rfl, rfl⟩
      | false =>
        cases h3 : (B.toList == [76, 101, 116, 116, 101, 114]) with
        | true =>
          go_wp2
          go_meet
          exact ⟨by rw [← H1.out, h1, h2]; rfl, by rw [← H2.out, h3]; rfl, rfl⟩
        | false =>
          cases h4 : (B.toList == [72, 101, 98, 114, 101, 119]) with
          | true =>
            go_wp2
            go_meet
            exact ⟨by rw [← H1.out, h1, h2]; rfl, by rw [← H2.out, h3, h4]; rfl, rfl⟩
          | false =>
            go_wp2
            go_meet
            exact ⟨by rw [← H1.out, h1, h2]; rfl, by rw [← H2.out, h3, h4]; rfl, rfl⟩
  case rest =>
    obtain ⟨rfl, rfl, rfl⟩ := hcut
    clear H1 H2
    go_upto_region 2 with fail
    go_cut [52] from 7 (fun v wx => v = .bool x3 ∧ w = wx)
    case first =>
      cases x1 with
      | true =>
        cases x2 with
        | true =>
          go_wp2
          go_meet
          exact ⟨by rw [← H3.out]; rfl, rfl⟩
        | false =>
          cases h1 : (A.toList == [68, 105, 103, 105, 116]) with
          | true =>
            cases h2 : (B.toList == [68, 105, 103, 105, 116]) with
            | true =>
              go_wp2
              go_meet
              exact ⟨by rw [← H3.out, h1, h2]; rfl, rfl⟩
            | false =>
              cases h3 : (A.toList == [75, 97, 116, 97, 107, 97, 110, 97]) with
              | true =>
                cases h4 : (B.toList == [75, 97, 116, 97, 107, 97, 110, 97]) with
                | true =>
                  go_wp2
                  go_meet
                  exact ⟨by rw [← H3.out, h1, h2, h3, h4]; rfl, rfl⟩
                | false =>
                  go_wp2
                  go_meet
                  exact ⟨by rw [← H3.out, h1, h2, h3, h4]; rfl, rfl⟩
              | false =>
                go_wp2
                go_meet
                exact ⟨by rw [← H3.out, h1, h2, h3]; rfl, rfl⟩
          | false =>
            cases h2 : (B.toList == [68, 105, 103, 105, 116]) with
            | true =>
              go_wp2
              go_meet
              exact ⟨by rw [← H3.out, h1, h2]; rfl, rfl⟩
            | false =>
              cases h3 : (A.toList == [75, 97, 116, 97, 107, 97, 110, 97]) with
              | true =>
                cases h4 : (B.toList == [75, 97, 116, 97, 107, 97, 110, 97]) with
                | true =>
                  go_wp2
                  go_meet
                  exact ⟨by rw [← H3.out, h1, h2, h3, h4]; rfl, rfl⟩
                | false =>
                  go_wp2
                  go_meet
                  exact ⟨by rw [← H3.out, h1, h2, h3, h4]; rfl, rfl⟩
              | false =>
                go_wp2
                go_meet
                exact ⟨by rw [← H3.out, h1, h2, h3]; rfl, rfl⟩
      | false =>
        cases x2 with
        | true =>
          cases h1 : (A.toList == [68, 105, 103, 105, 116]) with
          | true =>
            cases h2 : (B.toList == [68, 105, 103, 105, 116]) with
            | true =>
              go_wp2
              go_meet
              exact ⟨by rw [← H3.out, h1, h2]; rfl, rfl⟩
            | false =>
              go_wp2
              go_meet
              exact ⟨by rw [← H3.out, h1, h2]; rfl, rfl⟩
          | false =>
            cases h2 : (A.toList == [75, 97, 116, 97, 107, 97, 110, 97]) with
            | true =>
              cases h3 : (B.toList == [75, 97, 116, 97, 107, 97, 110, 97]) with
              | true =>
                go_wp2
                go_meet
                exact ⟨by rw [← H3.out, h1, h2, h3]; rfl, rfl⟩
              | false =>
                go_wp2
                go_meet
                exact ⟨by rw [← H3.out, h1, h2, h3]; rfl, rfl⟩
            | false =>
              go_wp2
              go_meet
              exact ⟨by rw [← H3.out, h1, h2]; rfl, rfl⟩
        | false =>
          cases h1 : (A.toList == [68, 105, 103, 105, 116]) with
          | true =>
            cases h2 : (B.toList == [68, 105, 103, 105, 116]) with
            | true =>
              go_wp2
              go_meet
              exact ⟨by rw [← H3.out, h1, h2]; rfl, rfl⟩
            | false =>
              cases h3 : (A.toList == [75, 97, 116, 97, 107, 97, 110, 97]) with
              | true =>
                cases h4 : (B.toList == [75, 97, 116, 97, 107, 97, 110, 97]) with
                | true =>
                  go_wp2
                  go_meet
                  exact ⟨by rw [← H3.out, h1, h2, h3, h4]; rfl, rfl⟩
                | false =>
                  go_wp2
                  go_meet
                  exact ⟨by rw [← H3.out, h1, h2, h3, h4]; rfl, rfl⟩
              | false =>
                go_wp2
                go_meet
                exact ⟨by rw [← H3.out, h1, h2, h3]; rfl, rfl⟩
          | false =>
            cases h2 : (A.toList == [75, 97, 116, 97, 107, 97, 110, 97]) with
            | true =>
              cases h3 : (B.toList == [75, 97, 116, 97, 107, 97, 110, 97]) with
              | true =>
                go_wp2
                go_meet
                exact ⟨by rw [← H3.out, h1, h2, h3]; rfl, rfl⟩
              | false =>
                go_wp2
                go_meet
                exact ⟨by rw [← H3.out, h1, h2, h3]; rfl, rfl⟩
            | false =>
              go_wp2
              go_meet
              exact ⟨by rw [← H3.out, h1, h2]; rfl, rfl⟩
    case rest =>
      obtain ⟨rfl, rfl⟩ := hcut
      clear H3
      cases x3 with
      | true =>
        go_wp2
        go_ret
        exact ⟨by rw [HW.out]; rfl, rfl⟩
      | false =>
        rw [Bool.false_or] at HW
        cases h1 : (B.toList == [69, 120, 116, 101, 110, 100]) with
        | true =>
          cases h2 : (A.toList == [78, 101, 119, 108, 105, 110, 101]) with
          | true =>
            have k2 : (A.toList != [78, 101, 119, 108, 105, 110, 101]) = false := by rw [bne, h2]; rfl
            go_wp2
            go_ret
            exact ⟨by rw [HW.out, ← H4.out]; rw [h1, k2]; rfl, rfl⟩
          | false =>
            have k2 : (A.toList != [78, 101, 119, 108, 105, 110, 101]) = true := by rw [bne, h2]; rfl
            cases h3 : (A.toList == [67, 114]) with
            | true =>
              have k3 : (A.toList != [67, 114]) = false := by rw [bne, h3]; rfl
              go_wp2
              go_ret
              exact ⟨by rw [HW.out, ← H4.out]; rw [h1, k2, k3]; rfl, rfl⟩
            | false =>
              have k3 : (A.toList != [67, 114]) = true := by rw [bne, h3]; rfl
              cases h4 : (A.toList == [76, 102]) with
              | true =>
                have k4 : (A.toList != [76, 102]) = false := by rw [bne, h4]; rfl
                go_wp2
                go_ret
                exact ⟨by rw [HW.out, ← H4.out]; rw [h1, k2, k3, k4]; rfl, rfl⟩
              | false =>
                have k4 : (A.toList != [76, 102]) = true := by rw [bne, h4]; rfl
                go_wp2
                go_ret
                exact ⟨by rw [HW.out, ← H4.out]; rw [h1, k2, k3, k4]; rfl, rfl⟩
        | false =>
          cases h2 : (B.toList == [70, 111, 114, 109, 97, 116]) with
          | true =>
            cases h3 : (A.toList == [78, 101, 119, 108, 105, 110, 101]) with
            | true =>
              have k3 : (A.toList != [78, 101, 119, 108, 105, 110, 101]) = false := by rw [bne, h3]; rfl
              go_wp2
              go_ret
              exact ⟨by rw [HW.out, ← H4.out]; rw [h1, h2, k3]; rfl, rfl⟩
            | false =>
              have k3 : (A.toList != [78, 101, 119, 108, 105, 110, 101]) = true := by rw [bne, h3]; rfl
              cases h4 : (A.toList == [67, 114]) with
              | true =>
                have k4 : (A.toList != [67, 114]) = false := by rw [bne, h4]; rfl
                go_wp2
                go_ret
                exact ⟨by rw [HW.out, ← H4.out]; rw [h1, h2, k3, k4]; rfl, rfl⟩
              | false =>
                have k4 : (A.toList != [67, 114]) = true := by rw [bne, h4]; rfl
                cases h5 : (A.toList == [76, 102]) with
                | true =>
                  have k5 : (A.toList != [76, 102]) = false := by rw [bne, h5]; rfl
                  go_wp2
                  go_ret
                  exact ⟨by rw [HW.out, ← H4.out]; rw [h1, h2, k3, k4, k5]; rfl, rfl⟩
                | false =>
                  have k5 : (A.toList != [76, 102]) = true := by rw [bne, h5]; rfl
                  go_wp2
                  go_ret
                  exact ⟨by rw [HW.out, ← H4.out]; rw [h1, h2, k3, k4, k5]; rfl, rfl⟩
          | false =>
            cases h3 : (B.toList == [90, 119, 106]) with
            | true =>
              cases h4 : (A.toList == [78, 101, 119, 108, 105, 110, 101]) with
              | true =>
                have k4 : (A.toList != [78, 101, 119, 108, 105, 110, 101]) = false := by rw [bne, h4]; rfl
                go_wp2
                go_ret
                exact ⟨by rw [HW.out, ← H4.out]; rw [h1, h2, h3, k4]; rfl, rfl⟩
              | false =>
                have k4 : (A.toList != [78, 101, 119, 108, 105, 110, 101]) = true := by rw [bne, h4]; rfl
                cases h5 : (A.toList == [67, 114]) with
                | true =>
                  have k5 : (A.toList != [67, 114]) = false := by rw [bne, h5]; rfl
                  go_wp2
                  go_ret
                  exact ⟨by rw [HW.out, ← H4.out]; rw [h1, h2, h3, k4, k5]; rfl, rfl⟩
                | false =>
                  have k5 : (A.toList != [67, 114]) = true := by rw [bne, h5]; rfl
                  cases h6 : (A.toList == [76, 102]) with
                  | true =>
                    have k6 : (A.toList != [76, 102]) = false := by rw [bne, h6]; rfl
                    go_wp2
                    go_ret
                    exact ⟨by rw [HW.out, ← H4.out]; rw [h1, h2, h3, k4, k5, k6]; rfl, rfl⟩
                  | false =>
                    have k6 : (A.toList != [76, 102]) = true := by rw [bne, h6]; rfl
                    go_wp2
                    go_ret
                    exact ⟨by rw [HW.out, ← H4.out]; rw [h1, h2, h3, k4, k5, k6]; rfl, rfl⟩
            | false =>
              go_wp2
              go_ret
              exact ⟨by rw [HW.out, ← H4.out]; rw [h1, h2, h3]; rfl, rfl⟩

set_option maxRecDepth 100000 in
set_option maxHeartbeats 8000000 in
theorem kIs_any (s : ByteArray) (a : Int) (w : World) (hE : Env w) (hs : s.size ≤ 1000000) :
    Calls Tryz.prog 24 #[.string s, .int .i64 a] w fun e w' => e = .returned (.bool (((wBounds gW s).map (Nat.cast : Nat → Int)).any (a == ·))) ∧ Below w.heap.size w w' := by
  have HB := Lib.hid (kBounds_any s w hE hs)
  have hbl := wBounds_len gW s
  go_enter Tryz.func24, Tryz.ntmps24
  go_wp2_with fail
  refine HB.out.mono ?_
  rintro e w1 ⟨A, n, c, rfl, ho, hb⟩
  have hn : (wBounds gW s).length = n := by have h := ho.len; rw [List.length_map] at h; exact h
  have hrd := ho.rd (by decide)
  have HC := Lib.hid (lContains_any A n c ((wBounds gW s).map (Nat.cast : Nat → Int)) a w1 (by rw [List.map_map]; exact hrd) (by rw [List.length_map]; exact hn) (by omega))
  go_wp2_with fail
  refine HC.out.mono ?_
  rintro e w2 ⟨rfl, rfl⟩
  go_wp2
  go_ret
  exact ⟨by rw [List.any_map]; rfl, hb⟩
end Go.Proofs.YthlnfefpdmecaaaGreatDoor

