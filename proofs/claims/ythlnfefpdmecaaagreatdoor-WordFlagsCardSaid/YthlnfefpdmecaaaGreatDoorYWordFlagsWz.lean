/-
  kerflaw12: cut, WordFlags, walked.
-/
import Derived.Test.YthlnfefpdmecaaaGreatDoorYWordFlagsWy
import Derived.Test.YthlnfefpdmecaaaGreatDoorYWordFlags0c
import Derived.Test.YthlnfefpdmecaaaGreatDoorZ2a
namespace Go.Proofs.YthlnfefpdmecaaaGreatDoor
open Go.RowKit

theorem region_is (r : Int) : ((bytesOf (nmW r)).toList == [82, 101, 103, 105, 111, 110]) = decide (gW r = 7) := by
  rw [nmW_wnm, ByteArray.toList_eq, bytesOf_list]
  have h : ∀ i : Nat, i < 20 → (wnm i == [82, 101, 103, 105, 111, 110]) = decide (i = 7) := by decide
  exact h _ (gW_lt r)
theorem marks_is (r : Int) : marksV (bytesOf (nmW r)) = wHang (gW r : Int) := by
  unfold marksV
  rw [nmW_wnm, ByteArray.toList_eq, bytesOf_list]
  have h : ∀ i : Nat, i < 20 → ((wnm i == [69, 120, 116, 101, 110, 100]) || (wnm i == [70, 111, 114, 109, 97, 116]) || (wnm i == [90, 119, 106])) = wHang (i : Int) := by decide
  exact h _ (gW_lt r)
/-- Behind a last rune that is no flag and hangs on nothing, or none. -/
def OkF (X : List (Nat × Nat × Nat)) (q : Bool) : Prop := q = false → ∀ x : Nat × Nat × Nat, X[X.length - 1]? = some x → gW (x.1 : Nat) ≠ 7 ∧ wHang (gW (x.1 : Nat) : Int) = false
/-- A call that returns yes or no. -/
def SomeBool (e : Ending) : Prop := ∃ b, e = .returned (.bool b)
theorem SomeBool.mk (b : Bool) : SomeBool (.returned (.bool b)) := ⟨b, rfl⟩
set_option maxRecDepth 100000 in
set_option maxHeartbeats 4000000 in
theorem kcut12_any (s : ByteArray) (w : World) (hs : s.size ≤ 1000) : Calls Tryz.prog 27 #[.string s] w fun e w' => SomeBool e ∧ Below w.heap.size w w' := by
  have H2 := Lib.hid (sRunes_any s w (by omega))
  obtain ⟨X, HX⟩ : ∃ L, Hid (runesP s = L) := ⟨_, Lib.hid rfl⟩
  have hXz : X.length ≤ 1000 := by rw [← HX.out]; exact Nat.le_trans (runesP_len s) hs
  have HBd := Lib.hid (fun x (h : x ∈ X) => runesP_bd (s := s) x (by rw [HX.out]; exact h))
  rw [HX.out] at H2
  go_enter Tryz.func27, Tryz.ntmps27
  go_wp2_with fail
  refine H2.out.mono ?_
  rintro e w2 ⟨A, m, c, rfl, ho, hb2⟩
  have hm : X.length = m := by have := ho.len; simpa using this
  have Hm := Lib.hid hm
  have hmz : m ≤ 1000 := by omega
  have rd := ho.rd (by decide)
  have e3 : IntKind.i64.wrap ((m : Int) - 3) = (m : Int) - 3 := IntWalk.i64_in _ (by omega)
  clear H2 ho hm
  go_wp2_with fail
  go_loopw [4] (fun v wr => ∃ (k : Nat) (i : Int), v = .int .i64 i ∧ i = (k : Int) - 1 ∧ k ≤ m ∧ Below w2.heap.size w2 wr) (fun v _ => (intOf v + 1).toNat)
  case atStart => exact ⟨m, _, rfl, by go_num, by omega, Below.refl _ _⟩
  case round =>
    obtain ⟨k, i, rfl, hi, hk, hbr⟩ := hrel
    have hbb := below_step hb2 hbr hb2.size
    by_cases h1 : 0 ≤ i
    · by_cases h2 : (m : Int) - 3 ≤ i
      · obtain ⟨j, hj⟩ : ∃ j : Nat, i = (j : Int) := ⟨i.toNat, by omega⟩
        subst hj
        have hjm : j < m := by omega
        clear hi hk
        obtain ⟨⟨R, a, b⟩, Hx⟩ : ∃ x, Hid (X[j]? = some x) := ⟨_, Lib.hid (List.getElem?_eq_getElem (by have := Hm.out; omega))⟩
        have hbd := HBd.out _ (List.mem_of_getElem? Hx.out)
        simp only at hbd
        obtain ⟨bk, off, rfl, c0, c1, c2⟩ := rd_at3 rd Hx.out
        simp only at c0 c1 c2
        replace c0 := cell_keep c0 hbr
        replace c1 := cell_keep c1 hbr
        replace c2 := cell_keep c2 hbr
        obtain ⟨t1, ht1⟩ : ∃ t, ((R : Int) == 65533) = t := ⟨_, rfl⟩
        have e4 : IntKind.i64.wrap ((b : Int) - (a : Int)) = (b : Int) - (a : Int) := IntWalk.i64_in _ (by omega)
        cases t1 with
        | false =>
          go_wp2_with fail
          go_quiet (fail)
          go_wp2
          go_roundw
          case rel => exact ⟨j, _, rfl, rfl, by omega, below_drewN hbr _⟩
          case measure => simp [intOf]
        | true =>
          obtain ⟨t2, ht2⟩ : ∃ t, ((b : Int) - (a : Int) == 1) = t := ⟨_, rfl⟩
          cases t2 with
          | true =>
            go_wp2_with fail
            go_quiet (fail)
            go_wp2
            go_ret
            exact ⟨SomeBool.mk true, below_drewN hbb _⟩
          | false =>
            go_wp2_with fail
            go_quiet (fail)
            go_wp2
            go_roundw
            case rel => exact ⟨j, _, rfl, rfl, by omega, below_drewN hbr _⟩
            case measure => simp [intOf]
      · go_wp2
        go_ret
        exact ⟨SomeBool.mk false, hbb⟩
    · go_wp2
      go_ret
      exact ⟨SomeBool.mk false, hbb⟩
set_option maxRecDepth 100000 in
set_option maxHeartbeats 16000000 in
theorem pWordFlags_any (s : ByteArray) (n : Int) (t : ByteArray) (w : World) (hE : Env w) (hs : s.size ≤ 140737488355328) (ht : t.size ≤ 140737488355328) :
    Calls Tryz.prog 6 #[.string s, .int .i64 n, .string t] w fun e w' => e = .returned (.bool true) ∧ Below w.heap.size w w' := by
  by_cases h1 : 70 < s.size + t.size
  · have HL := Lib.hid (klive_any w hE)
    have g1 : (70 : Int) < (s.size : Int) + (t.size : Int) := by omega
    clear h1
    go_enter Tryz.func6, Tryz.ntmps6
    go_wp2_with fail
    refine HL.out.mono ?_
    rintro e w1 ⟨rfl, hb⟩
    go_wp2
    go_ret
    exact ⟨rfl, hb⟩
  have g1 : ¬ (70 : Int) < (s.size : Int) + (t.size : Int) := by omega
  by_cases h2 : n < 0
  · have HL := Lib.hid (klive_any w hE)
    clear h1
    go_enter Tryz.func6, Tryz.ntmps6
    go_wp2_with fail
    refine HL.out.mono ?_
    rintro e w1 ⟨rfl, hb⟩
    go_wp2
    go_ret
    exact ⟨rfl, hb⟩
  by_cases h3 : 12 < n
  · have HL := Lib.hid (klive_any w hE)
    clear h1
    go_enter Tryz.func6, Tryz.ntmps6
    go_wp2_with fail
    refine HL.out.mono ?_
    rintro e w1 ⟨rfl, hb⟩
    go_wp2
    go_ret
    exact ⟨rfl, hb⟩
  obtain ⟨N, rfl⟩ : ∃ N : Nat, n = N := ⟨n.toNat, by omega⟩
  have hN : N ≤ 12 := by omega
  have hsz : s.size ≤ 70 := by omega
  have htz : t.size ≤ 70 := by omega
  have HLv := Lib.hid (fun W (h : Env W) => klive_any W h)
  have H1 := Lib.hid (kDbR_any w)
  have H2 := Lib.hid (fun W => sRunes_any s W (by omega))
  have H3 := Lib.hid (fun W => sRunes_any t W (by omega))
  have HCt := Lib.hid (fun W => kcut12_any s W (by omega))
  have HIs := Lib.hid (fun u a W (h : Env W) (hu : u.size ≤ 1000000) => kIs_any u a W h hu)
  obtain ⟨X, HX⟩ : ∃ L, Hid (runesP s = L) := ⟨_, Lib.hid rfl⟩
  obtain ⟨Y, HY⟩ : ∃ L, Hid (runesP t = L) := ⟨_, Lib.hid rfl⟩
  have hXz : X.length ≤ 70 := by rw [← HX.out]; exact Nat.le_trans (runesP_len s) hsz
  have hYz : Y.length ≤ 70 := by rw [← HY.out]; exact Nat.le_trans (runesP_len t) htz
  have HFz := Lib.hid (fl_size s)
  have HFs := Lib.hid (fl_succ s)
  have HF0 := Lib.hid (fl_zero s)
  have HLaw := Lib.hid (fun (u : ByteArray) i (hu : u.data.toList = (fl s N).data.toList ++ t.data.toList) hx h1 hi => flags_is (s := s) (t := t) (u := u) (n := N) (i := i) hu hx h1 hi)
  rw [HX.out] at HLaw
  clear h1 hs ht
  go_enter Tryz.func6, Tryz.ntmps6
  go_wp2_with fail
  refine H1.out.mono ?_
  rintro e w1 ⟨p, x, rfl, hd, hb1⟩
  go_wp2_with fail
  refine (H2.out w1).mono ?_
  rw [HX.out]
  rintro e w2 ⟨A, nx, cx, rfl, ho, hb2⟩
  go_wp2_with fail
  refine (H3.out w2).mono ?_
  rw [HY.out]
  rintro e w3 ⟨B, ny, cy, rfl, hp, hb3⟩
  have hnx : X.length = nx := by have := ho.len; simpa using this
  have hny : Y.length = ny := by have := hp.len; simpa using this
  have rdx := (ho.below hb3).rd (by decide)
  have rdy := hp.rd (by decide)
  have hb4 := below_two (below_two hb1 hb2) hb3
  have HNm := Lib.hid (fun (r : Int) W (h : Below w3.heap.size w3 W) => kname_any w.heap.size p x r W (((hd.below hb2).below hb3).below h))
  have hE3 := Lib.hid (hE.below hb4)
  have Hnx := Lib.hid hnx
  have Hny := Lib.hid hny
  have hnxz : nx ≤ 70 := by omega
  have hnyz : ny ≤ 70 := by omega
  clear H1 H2 H3 hd ho hp hb1 hb2 hb3 hE hnx hny
  go_upto_region 5 with fail
  go_cut [59] from 33 to 58 (fun v wx => ∃ q, v = .bool q ∧ Hid (OkF X q) ∧ Below w3.heap.size w3 wx)
  case first =>
    by_cases hx0 : nx = 0
    · have e0 : decide (0 < nx) = false := decide_eq_false (by omega)
      have Hq := Lib.hid (show OkF X false from fun _ x hx => by
        have := (List.getElem?_eq_some_iff.1 hx).1; have := Hnx.out; omega)
      clear hx0
      go_wp2_with fail
      go_meet
      exact ⟨_, rfl, Hq, Below.refl _ _⟩
    · have e0 : decide (0 < nx) = true := decide_eq_true (by omega)
      obtain ⟨j, hj⟩ : ∃ j, nx - 1 = j := ⟨_, rfl⟩
      have e1 : (nx : Int) - 1 = (j : Int) := by omega
      have hj2 : j < nx := by omega
      obtain ⟨⟨rx, ax, bx⟩, Hx⟩ : ∃ x, Hid (X[j]? = some x) := ⟨_, Lib.hid (List.getElem?_eq_getElem (by have := Hnx.out; omega))⟩
      have Hxl : Hid (X[X.length - 1]? = some (rx, ax, bx)) := Lib.hid (by rw [Hnx.out, hj]; exact Hx.out)
      obtain ⟨bk, off, rfl, c0, c1, c2⟩ := rd_at3 rdx Hx.out
      simp only at c0
      have HR1 := Lib.hid (region_is (rx : Int))
      have HM1 := Lib.hid (marks_is (rx : Int))
      have HN1 := Lib.hid (fun W h => HNm.out (rx : Int) W h)
      have HL1 := Lib.hid (fun h7 hh => show OkF X false from fun _ x hx => by
        rw [Hxl.out] at hx
        injection hx with hx
        subst hx
        exact And.intro (of_decide_eq_false h7) hh)
      simp only at HL1
      generalize gW (rx : Int) = g7 at HR1 HM1 HL1
      generalize nmW (rx : Int) = nm1 at HR1 HM1 HN1
      clear hx0 hj c1 c2 Hx Hxl
      obtain ⟨q1, Hq1⟩ : ∃ q, Hid (decide (g7 = 7) = q) := ⟨_, Lib.hid rfl⟩
      obtain ⟨q2, Hq2⟩ : ∃ q, Hid (wHang (g7 : Int) = q) := ⟨_, Lib.hid rfl⟩
      rw [Hq1.out] at HR1 HL1
      rw [Hq2.out] at HM1 HL1
      have k1 := HR1.out
      have HL2 : Hid (q1 = true ∨ (q2 = false → OkF X false)) := Lib.hid (by cases q1 with
        | true => exact .inl rfl
        | false => exact .inr fun h => HL1.out rfl h)
      clear HL1
      cases q1 with
      | true =>
        go_wp2_with fail
        refine (HN1.out w3 (Below.refl _ _)).mono ?_
        rintro e w4 ⟨rfl, hb5⟩
        go_wp2_with fail
        go_meet
        exact ⟨true, rfl, Lib.hid (show OkF X true from fun h => by cases h), hb5⟩
      | false =>
        go_wp2_with fail
        refine (HN1.out w3 (Below.refl _ _)).mono ?_
        rintro e w4 ⟨rfl, hb5⟩
        replace c0 := cell_keep c0 hb5
        go_wp2_with fail
        refine (HN1.out w4 hb5).mono ?_
        rintro e w5 ⟨rfl, hb6⟩
        go_wp2_with fail
        refine (kmarks_any _ _).mono ?_
        rw [HM1.out]
        rintro e w6 ⟨rfl, rfl⟩
        go_wp2_with fail
        go_meet
        exact ⟨q2, rfl, Lib.hid (show OkF X q2 from fun h => by rcases HL2.out with k | k; cases k; exact k h rfl), below_two hb5 hb6⟩
  case rest =>
    obtain ⟨q, rfl, HQ, hbx⟩ := hcut
    cases q with
    | true =>
      go_wp2_with fail
      refine (HLv.out _ (hE3.out.below hbx)).mono ?_
      rintro e w7 ⟨rfl, hb⟩
      go_wp2
      go_ret
      exact ⟨rfl, below_two (below_two hb4 hbx) hb⟩
    | false =>
      go_upto_region 7 with fail
      go_cut [81] from 61 to 80 (fun v wx => ∃ q, v = .bool q ∧ Below w3.heap.size w3 wx)
      case first =>
        by_cases hy0 : ny = 0
        · have e0 : decide (0 < ny) = false := decide_eq_false (by omega)
          clear hy0
          go_wp2_with fail
          go_meet
          exact ⟨_, rfl, hbx⟩
        · have e0 : decide (0 < ny) = true := decide_eq_true (by omega)
          have hny0 : 0 < ny := by omega
          obtain ⟨⟨ry, ay, by_⟩, Hy⟩ : ∃ x, Hid (Y[0]? = some x) := ⟨_, Lib.hid (List.getElem?_eq_getElem (by have := Hny.out; omega))⟩
          obtain ⟨bk, off, rfl, c0, c1, c2⟩ := rd_at3 rdy Hy.out
          simp only [Nat.zero_mul, Nat.add_zero] at c0
          replace c0 := cell_keep c0 hbx
          have HN1 := Lib.hid (fun W h => HNm.out (ry : Int) W h)
          generalize nmW (ry : Int) = nm1 at HN1
          clear hy0 c1 c2 Hy
          obtain ⟨q1, k1⟩ : ∃ q, ((bytesOf nm1).toList == [82, 101, 103, 105, 111, 110]) = q := ⟨_, rfl⟩
          obtain ⟨q2, Hq2⟩ : ∃ q, Hid (marksV (bytesOf nm1) = q) := ⟨_, Lib.hid rfl⟩
          cases q1 with
          | true =>
            go_wp2_with fail
            refine (HN1.out _ hbx).mono ?_
            rintro e w4 ⟨rfl, hb5⟩
            go_wp2_with fail
            go_meet
            exact ⟨true, rfl, below_two hbx hb5⟩
          | false =>
            go_wp2_with fail
            refine (HN1.out _ hbx).mono ?_
            rintro e w4 ⟨rfl, hb5⟩
            have hb5' := below_two hbx hb5
            replace c0 := cell_keep c0 hb5
            go_wp2_with fail
            refine (HN1.out w4 hb5').mono ?_
            rintro e w5 ⟨rfl, hb6⟩
            go_wp2_with fail
            refine (kmarks_any _ _).mono ?_
            rw [Hq2.out]
            rintro e w6 ⟨rfl, rfl⟩
            go_wp2_with fail
            go_meet
            exact ⟨q2, rfl, below_two hb5' hb6⟩
      case rest =>
        clear hbx
        obtain ⟨q, rfl, hbx⟩ := hcut
        cases q with
        | true =>
          go_wp2_with fail
          refine (HLv.out _ (hE3.out.below hbx)).mono ?_
          rintro e w7 ⟨rfl, hb⟩
          go_wp2
          go_ret
          exact ⟨rfl, below_two (below_two hb4 hbx) hb⟩
        | false =>
          go_wp2_with fail
          refine (HCt.out _).mono ?_
          rintro e w4 ⟨⟨q, rfl⟩, hb5⟩
          replace hbx := below_two hbx hb5
          clear hb5
          cases q with
          | true =>
            go_wp2_with fail
            refine (HLv.out _ (hE3.out.below hbx)).mono ?_
            rintro e w7 ⟨rfl, hb⟩
            go_wp2
            go_ret
            exact ⟨rfl, below_two (below_two hb4 hbx) hb⟩
          | false =>
            go_wp2_with fail
            go_loopw [10, 11] (fun u v wr => ∃ i : Nat, u = .string (fl s i) ∧ v = .int .i64 i ∧ i ≤ N ∧ wr = w4) (fun _ v _ => N - (intOf v).toNat)
            case atStart => exact ⟨0, by rw [HF0.out], rfl, by omega, rfl⟩
            case round =>
              obtain ⟨i, rfl, rfl, hi, rfl⟩ := hrel
              by_cases hlt : i < N
              · have hz := HFz.out i
                have hsc := HFs.out i
                go_wp2
                go_roundw
                case rel => exact ⟨i + 1, by first | rfl | (rw [hsc]), by go_num, by omega, by first | rfl | trivial⟩
                case measure => simp [intOf]; omega
              · obtain rfl : i = N := by omega
                have hz := HFz.out i
                have HUd : Hid ((fl s i ++ t).data.toList = (fl s i).data.toList ++ t.data.toList) := Lib.hid (by rw [ByteArray.data_append, Array.toList_append])
                have HUz : Hid ((fl s i ++ t).size ≤ 1000000) := Lib.hid (by rw [ByteArray.size_append]; omega)
                go_wp2_with fail
                generalize (fl s i ++ t) = u at HUd HUz ⊢
                go_loopw [12] (fun v wq => ∃ j : Nat, v = .int .i64 j ∧ 1 ≤ j ∧ j ≤ i + 1 ∧ Below w3.heap.size w3 wq) (fun v _ => i + 1 - (intOf v).toNat)
                case atStart => exact ⟨1, rfl, by omega, by omega, hbx⟩
                case round =>
                  clear hbx
                  obtain ⟨j, rfl, hj1, hj, hbq⟩ := hrel
                  have hEq := hE3.out.below hbq
                  by_cases hjt : j < i
                  · obtain ⟨a, ha⟩ : ∃ a, 4 * j = a := ⟨_, rfl⟩
                    obtain ⟨z, hz'⟩ : ∃ z, s.size + a = z := ⟨_, rfl⟩
                    obtain ⟨r, hr⟩ : ∃ r, j % 2 = r := ⟨_, rfl⟩
                    have f1 : (4 : Int) * (j : Int) = (a : Int) := by omega
                    have f2 : (s.size : Int) + (a : Int) = (z : Int) := by omega
                    have f3 : Int.tmod (j : Int) 2 = (r : Int) := by subst hr; rfl
                    have f5 : a ≤ 100 := by omega
                    have f6 : z ≤ 200 := by omega
                    obtain ⟨b, Hb⟩ : ∃ b, Hid ((j % 2 == 0) = b) := ⟨_, Lib.hid rfl⟩
                    have f4 : ((r : Int) == 0) = b := by
                      rw [← Hb.out, hr]
                      rw [Bool.eq_iff_iff, beq_iff_eq, beq_iff_eq]
                      omega
                    have HI2 : Hid (∀ W, Env W → Calls Tryz.prog 24 #[.string u, .int .i64 (z : Nat)] W fun e w' => e = .returned (.bool b) ∧ Below W.heap.size W w') := Lib.hid fun W h => by
                      have h1 := HIs.out u (z : Int) W h HUz.out
                      rw [List.any_map] at h1
                      have h2 := HLaw.out u j HUd.out (HQ.out (Eq.refl false)) hj1 hjt
                      rw [ha, hz', Hb.out] at h2
                      have h3 : (wBounds gW u).any ((fun x => ((z : Nat) : Int) == x) ∘ (Nat.cast : Nat → Int)) = b := h2
                      rw [h3] at h1
                      exact h1
                    clear ha hz' hr
                    go_wp2_with fail
                    refine (HI2.out _ hEq).mono ?_
                    rintro e w8 ⟨rfl, hb8⟩
                    cases b with
                    | true =>
                      go_wp2
                      go_roundw
                      case rel => exact ⟨j + 1, by go_num, by omega, by omega, below_two hbq hb8⟩
                      case measure => simp [intOf]; omega
                    | false =>
                      go_wp2
                      go_roundw
                      case rel => exact ⟨j + 1, by go_num, by omega, by omega, below_two hbq hb8⟩
                      case measure => simp [intOf]; omega
                  · go_wp2_with fail
                    refine (HLv.out _ hEq).mono ?_
                    rintro e w9 ⟨rfl, hb9⟩
                    go_wp2
                    go_ret
                    exact ⟨rfl, below_two (below_two hb4 hbq) hb9⟩
end Go.Proofs.YthlnfefpdmecaaaGreatDoor

