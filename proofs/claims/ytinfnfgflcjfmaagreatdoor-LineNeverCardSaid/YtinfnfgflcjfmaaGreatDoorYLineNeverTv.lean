/-
  kerflaw14.LineNever, walked. Printed by gen_never.py.
-/
import Derived.Deep.RegionHeld3
import Derived.Deep.DeepCutAuto
import Derived.Test.YtinfnfgflcjfmaaGreatDoorZ9a
import Derived.Test.YtinfnfgflcjfmaaGreatDoorYLineNeverTy
namespace Go.Proofs.YtinfnfgflcjfmaaGreatDoor
open Go.RowKit

theorem zw_first (c : List Int) : lZw c 0 = false := rfl
set_option maxRecDepth 100000 in
set_option maxHeartbeats 40000000 in
theorem yLineNever_any (s : ByteArray) (w : World) (hE : Env w) (_hs : s.size ≤ maxLen) :
    Calls Tryz.prog 4 #[.string s] w fun e w' => e = .returned (.bool true) ∧ Below w.heap.size w w' := by
  by_cases hl : 60 < s.size
  · have HL := Lib.hid (ylive_any w hE)
    have hl2 : (60 : Int) < (s.size : Int) := by omega
    clear hl
    go_enter Tryz.func4, Tryz.ntmps4
    go_wp2_with fail
    refine HL.out.mono ?_
    rintro e w1 ⟨rfl, hb⟩
    go_wp2
    go_ret
    exact ⟨rfl, hb⟩
  have hl2 : ¬ (60 : Int) < (s.size : Int) := by omega
  have HLv := Lib.hid (fun W (h : Env W) => ylive_any W h)
  have HK := Lib.hid (fun (k : Int) W (h : Env W) => tKind_any s k W h (by omega))
  have H1 := Lib.hid (xDb_any w)
  have H2 := Lib.hid (fun W => sRunes_any s W (by omega))
  obtain ⟨X, HX⟩ : ∃ L, Hid (runesP s = L) := ⟨_, Lib.hid rfl⟩
  obtain ⟨C, HC⟩ : ∃ L, Hid (lCls gL s = L) := ⟨_, Lib.hid rfl⟩
  have hXz : X.length ≤ 60 := by rw [← HX.out]; exact Nat.le_trans (runesP_len s) (by omega)
  have hz0 := Lib.hid (zw_first C)
  clear hl
  go_enter Tryz.func4, Tryz.ntmps4
  go_wp2_with fail
  refine H1.out.mono ?_
  rintro e w1 ⟨p, x, rfl, hd, hb1⟩
  go_wp2_with fail
  refine (H2.out w1).mono ?_
  rw [HX.out]
  rintro e w2 ⟨A, nx, cx, rfl, ho, hb2⟩
  have hnx : X.length = nx := by have := ho.len; simpa using this
  have Hn := Lib.hid hnx
  have hnz : nx ≤ 60 := by omega
  have rd := ho.rd (by decide)
  have hb3 := below_two hb1 hb2
  have HD := Lib.hid (hd.below hb2)
  have HNm := Lib.hid (fun (r : Int) W (h : Below w2.heap.size w2 W) => xNamed_any w.heap.size p x r W (HD.out.below h))
  have hE2 := Lib.hid (hE.below hb3)
  have hsz3 := hb3.size
  clear H1 H2 hd ho hb1 hb2 hE hnx
  go_wp2_with fail
  go_loopw [5, 6] (fun v u wr => ∃ (i : Nat) (z : Bool), v = .bool z ∧ u = .int .i64 i ∧ 1 ≤ i ∧ i ≤ nx + 1 ∧ Hid (lZw C (i - 1) = z) ∧ Below w2.heap.size w2 wr) (fun _ u _ => nx - (intOf u).toNat)
  case atStart => exact ⟨1, false, rfl, rfl, by omega, by omega, hz0, Below.refl _ _⟩
  case round =>
    obtain ⟨i, z, rfl, rfl, h1i, hi, HZ, hb⟩ := hrel
    by_cases hlt : i < nx
    · obtain ⟨j, hj⟩ : ∃ j, i - 1 = j := ⟨_, rfl⟩
      have hij : i = j + 1 := by omega
      have e1 : (i : Int) - 1 = (j : Int) := by omega
      obtain ⟨⟨r1, a1, b1⟩, Hx1⟩ : ∃ x, Hid (X[j]? = some x) := ⟨_, Lib.hid (List.getElem?_eq_getElem (by have := Hn.out; omega))⟩
      obtain ⟨⟨r2, a2, b2⟩, Hx2⟩ : ∃ x, Hid (X[i]? = some x) := ⟨_, Lib.hid (List.getElem?_eq_getElem (by have := Hn.out; omega))⟩
      obtain ⟨bk, off, rfl, c0, c1, c2⟩ := rd.atRn Hx1.out
      obtain ⟨bk', off', eB, d0, d1, d2⟩ := rd.atRn Hx2.out
      obtain ⟨rfl, rfl⟩ : bk = bk' ∧ off = off' := by injection eB with e; injection e with e1 e2; exact ⟨e1, e2⟩
      simp only at c0 d0 d1
      replace c0 := cell_keep c0 hb
      replace d0 := cell_keep d0 hb
      replace d1 := cell_keep d1 hb
      have hca : C.getD j 0 = ((gL (r1 : Int) : Nat) : Int) := by
        rw [← HC.out]; unfold lCls
        rw [List.getD_eq_getElem?_getD, List.getElem?_map, HX.out, Hx1.out]; rfl
      have hcb : C.getD (j + 1) 0 = ((gL (r2 : Int) : Nat) : Int) := by
        rw [← HC.out]; unfold lCls
        rw [List.getD_eq_getElem?_getD, List.getElem?_map, HX.out, ← hij, Hx2.out]; rfl
      have HKC : Hid (kinP (lChances gL s) (a2 : Int) = kcP C (j + 1)) := Lib.hid (by
        have := kind_at (g := gL) (s := s) (k := j + 1) (x := (r2, a2, b2)) (by rw [HX.out, ← hij]; exact Hx2.out) (by omega)
        rw [HC.out] at this
        exact this)
      obtain ⟨kk, Hkk⟩ : ∃ kk, Hid (kcP C (j + 1) = kk) := ⟨_, Lib.hid rfl⟩
      obtain ⟨na, Hna⟩ : ∃ nm, Hid (nmL (r1 : Int) = nm) := ⟨_, Lib.hid rfl⟩
      obtain ⟨nb, Hnb⟩ : ∃ nm, Hid (nmL (r2 : Int) = nm) := ⟨_, Lib.hid rfl⟩
      have HEnd : Hid (endsL ((gL (r1 : Int) : Nat) : Int) ((gL (r2 : Int) : Nat) : Int) = (kk == 2)) := Lib.hid (by rw [← hca, ← hcb, ← Hkk.out]; exact kc_end)
      have F1 : Hid (endsL ((gL (r1 : Int) : Nat) : Int) ((gL (r2 : Int) : Nat) : Int) = false → [[83, 112], [90, 119], [66, 107], [67, 114], [76, 102]].contains nb = true → kk = 0) := Lib.hid (fun h1 h2 => by
        rw [← Hkk.out]; rw [← Hnb.out, amongS1] at h2; rw [← hca, ← hcb] at h1; rw [← hcb] at h2; exact kc_1 h1 h2)
      have F2 : Hid (endsL ((gL (r1 : Int) : Nat) : Int) ((gL (r2 : Int) : Nat) : Int) = false → [[87, 106], [67, 108], [67, 112], [69, 120], [73, 115], [83, 121]].contains nb = true → lZw C (j + 1) = false → kk = 0) := Lib.hid (fun h1 h2 h3 => by
        rw [← Hkk.out]; rw [← Hnb.out, amongS2] at h2; rw [← hca, ← hcb] at h1; rw [← hcb] at h2; exact kc_2 h1 h2 h3)
      have F3 : Hid (gL (r1 : Int) = 7 ∨ gL (r1 : Int) = 6 → kk = 0) := Lib.hid (fun h => by rw [← Hkk.out]; exact kc_3 (by rw [hca]; omega))
      have F4 : Hid (gL (r1 : Int) = 0 → [[79, 116, 104, 101, 114], [78, 117], [71, 108], [87, 106]].contains nb = true → kk = 0) := Lib.hid (fun h h2 => by
        rw [← Hkk.out]; rw [← Hnb.out, amongS4, ← hcb] at h2; exact kc_4 (by rw [hca, h]; rfl) h2)
      have F5 : Hid (gL (r1 : Int) = 20 → [[79, 116, 104, 101, 114], [78, 117]].contains nb = true → kk = 0) := Lib.hid (fun h h2 => by
        rw [← Hkk.out]; rw [← Hnb.out, amongS5, ← hcb] at h2; exact kc_5 (by rw [hca, h]; rfl) h2)
      have HZs : Hid (lZw C (j + 1) = if gL (r1 : Int) = 5 then true else if gL (r1 : Int) ≠ 4 then false else z) := Lib.hid (by
        rw [lZw_step, hca, ← HZ.out, hj]
        by_cases h5 : gL (r1 : Int) = 5
        · rw [if_pos (by omega), if_pos h5]
        · rw [if_neg (by omega), if_neg h5]
          by_cases h4 : gL (r1 : Int) ≠ 4
          · rw [if_pos (by omega), if_pos h4]
          · rw [if_neg (by omega), if_neg h4])
      have HSA := Lib.hid (fun (m : Nat) (l : List UInt8) (h : linesD.names[m]? = some l) => show ((bytesOf na).toList == l) = (((gL (r1 : Int) : Nat) : Int) == (m : Int)) by rw [← Hna.out]; exact nmS _ h)
      have HSB := Lib.hid (fun (m : Nat) (l : List UInt8) (h : linesD.names[m]? = some l) => show ((bytesOf nb).toList == l) = (((gL (r2 : Int) : Nat) : Int) == (m : Int)) by rw [← Hnb.out]; exact nmS _ h)
      have HKd := Lib.hid (fun W (h : Below w2.heap.size w2 W) => HK.out (a2 : Int) W (hE2.out.below h))
      rw [HKC.out, Hkk.out] at HKd
      have Hk3 : Hid (kk = 0 ∨ kk = 1 ∨ kk = 2) := Lib.hid (by
        rw [← Hkk.out]; unfold kcP
        split
        · split
          · exact .inr (.inr rfl)
          · exact .inr (.inl rfl)
        · exact .inl rfl)
      have HJ : Hid (i + 1 - 1 = j + 1) := Lib.hid (by omega)
      have q1 : (j : Int) < (nx : Int) := by omega
      have q2 : (0 : Int) ≤ (j : Int) := by omega
      have q3 : (i : Int) < (nx : Int) := by omega
      have q4 : IntKind.i64.wrap ((i : Int) - 1) = (i : Int) - 1 := IntWalk.i64_in _ (by omega)
      have q5 : IntKind.i64.wrap (j : Int) = (j : Int) := IntWalk.i64_in _ (by omega)
      have q6 : j < nx := by omega
      clear hj hij hca hcb HKC Hkk c1 c2 d2 eB HZ Hx1 Hx2
      go_upto_region 9 with fail
      have HST := Lib.hid (fun (V : World) (h : Below wr.heap.size wr V) => And.intro (cell_keep c0 h) (And.intro (cell_keep d0 h) (And.intro (cell_keep d1 h) h)))
      have HBw := Lib.hid (fun (V : World) (h : Below wr.heap.size wr V) => below_two hb h)
      go_cut [7, 8] (fun va vb wx => va = .string (bytesOf na) ∧ vb = .string (bytesOf nb) ∧ wx.cell? ⟨bk, off + i * 3 + 1, none⟩ = some (.int .i64 (a2 : Nat)) ∧ Below wr.heap.size wr wx)
      case first =>
        go_region_held3 (fun V => V.cell? ⟨bk, off + j * 3, none⟩ = some (.int .i32 (r1 : Nat)) ∧ V.cell? ⟨bk, off + i * 3, none⟩ = some (.int .i32 (r2 : Nat)) ∧ V.cell? ⟨bk, off + i * 3 + 1, none⟩ = some (.int .i64 (a2 : Nat)) ∧ Below wr.heap.size wr V)
          (first | exact HST.out _ Ba | exact HST.out _ (Below.refl _ _) | exact HST.out _ (below_drewN (Below.refl _ _) 1))
          (first
            | (go_at_call 20; go_split_ands; refine (HNm.out _ _ (HBw.out _ (by assumption))).mono ?_; rintro e wa ⟨rfl, hz⟩; have Ba := below_two (by assumption) hz))
        all_goals
          go_wp2_with fail
          go_meet
          exact ⟨by rw [Hna.out], by rw [Hnb.out], (HST.out _ Ba).2.2.1, Ba⟩
      case rest =>
        clear c0 d0 d1 HST
        obtain ⟨rfl, rfl, d1, hbx⟩ := hcut
        have hbc := below_two hb hbx
        clear hbx HNm
        rcases (by omega : gL (r1 : Int) = 5 ∨ gL (r1 : Int) = 4 ∨ gL (r1 : Int) = 1 ∨ gL (r1 : Int) = 3 ∨ gL (r1 : Int) = 2 ∨ gL (r1 : Int) = 7 ∨ gL (r1 : Int) = 6 ∨ gL (r1 : Int) = 0 ∨ gL (r1 : Int) = 20 ∨ (gL (r1 : Int) ≠ 5 ∧ gL (r1 : Int) ≠ 4 ∧ gL (r1 : Int) ≠ 1 ∧ gL (r1 : Int) ≠ 3 ∧ gL (r1 : Int) ≠ 2 ∧ gL (r1 : Int) ≠ 7 ∧ gL (r1 : Int) ≠ 6 ∧ gL (r1 : Int) ≠ 0 ∧ gL (r1 : Int) ≠ 20)) with hg | hg | hg | hg | hg | hg | hg | hg | hg | ⟨g5, g4, g1, g3, g2, g7, g6, g0, g20⟩
        · skip
          have s5 : ((bytesOf na).toList == [90, 119]) = true := by rw [HSA.out 5 [90, 119] rfl, hg]; rfl
          have s4 : ((bytesOf na).toList == [83, 112]) = false := by rw [HSA.out 4 [83, 112] rfl, hg]; rfl
          have s1 : ((bytesOf na).toList == [66, 107]) = false := by rw [HSA.out 1 [66, 107] rfl, hg]; rfl
          have s3 : ((bytesOf na).toList == [76, 102]) = false := by rw [HSA.out 3 [76, 102] rfl, hg]; rfl
          have s2 : ((bytesOf na).toList == [67, 114]) = false := by rw [HSA.out 2 [67, 114] rfl, hg]; rfl
          have s7 : ((bytesOf na).toList == [71, 108]) = false := by rw [HSA.out 7 [71, 108] rfl, hg]; rfl
          have s6 : ((bytesOf na).toList == [87, 106]) = false := by rw [HSA.out 6 [87, 106] rfl, hg]; rfl
          have s0 : ((bytesOf na).toList == [79, 116, 104, 101, 114]) = false := by rw [HSA.out 0 [79, 116, 104, 101, 114] rfl, hg]; rfl
          have s20 : ((bytesOf na).toList == [78, 117]) = false := by rw [HSA.out 20 [78, 117] rfl, hg]; rfl
          have hE : endsL ((gL (r1 : Int) : Nat) : Int) ((gL (r2 : Int) : Nat) : Int) = false := by rw [hg]; rfl
          rcases Hk3.out with hk | hk | hk
          · subst hk
            have hZ2 : lZw C (j + 1) = true := by rw [HZs.out, if_pos hg]
            have HZ2 := Lib.hid (show lZw C (i + 1 - 1) = true by rw [HJ.out]; exact hZ2)
            go_wp2_with fail
            refine (HKd.out _ hbc).mono ?_
            rintro e wn ⟨rfl, hz⟩
            replace hbc := below_two hbc hz
            clear hz
            go_upto_region 19 with fail
            go_cut [75] (fun vt wx => vt = .bool false ∧ Below w2.heap.size w2 wx)
            case first =>
              cases t1 : [[83, 112], [90, 119], [66, 107], [67, 114], [76, 102]].contains nb with
              | true =>
                go_wp2_with fail
                refine (yamong_b nb [[83, 112], [90, 119], [66, 107], [67, 114], [76, 102]] 5 _ _ rfl rfl (by decide)).mono ?_
                rw [t1]
                rintro e wn ⟨rfl, hz⟩
                replace hbc := below_two hbc hz
                clear hz
                go_wp2_with fail
                go_meet
                exact ⟨rfl, hbc⟩
              | false =>
                go_wp2_with fail
                refine (yamong_b nb [[83, 112], [90, 119], [66, 107], [67, 114], [76, 102]] 5 _ _ rfl rfl (by decide)).mono ?_
                rw [t1]
                rintro e wn ⟨rfl, hz⟩
                replace hbc := below_two hbc hz
                clear hz
                go_wp2_with fail
                go_meet
                exact ⟨rfl, hbc⟩
            case rest =>
              clear hbc
              obtain ⟨rfl, hbc⟩ := hcut
              go_upto_region 21 with fail
              go_cut [86] (fun vt wx => vt = .bool false ∧ Below w2.heap.size w2 wx)
              case first =>
                cases t1 : [[87, 106], [67, 108], [67, 112], [69, 120], [73, 115], [83, 121]].contains nb with
                | true =>
                  go_wp2_with fail
                  refine (yamong_b nb [[87, 106], [67, 108], [67, 112], [69, 120], [73, 115], [83, 121]] 6 _ _ rfl rfl (by decide)).mono ?_
                  rw [t1]
                  rintro e wn ⟨rfl, hz⟩
                  replace hbc := below_two hbc hz
                  clear hz
                  go_wp2_with fail
                  go_meet
                  exact ⟨rfl, hbc⟩
                | false =>
                  go_wp2_with fail
                  refine (yamong_b nb [[87, 106], [67, 108], [67, 112], [69, 120], [73, 115], [83, 121]] 6 _ _ rfl rfl (by decide)).mono ?_
                  rw [t1]
                  rintro e wn ⟨rfl, hz⟩
                  replace hbc := below_two hbc hz
                  clear hz
                  go_wp2_with fail
                  go_meet
                  exact ⟨rfl, hbc⟩
              case rest =>
                clear hbc
                obtain ⟨rfl, hbc⟩ := hcut
                go_wp2
                go_roundw
                case rel => exact ⟨i + 1, true, rfl, by go_num, by omega, by omega, HZ2, hbc⟩
                case measure => simp [intOf]; omega
          · subst hk
            have hZ2 : lZw C (j + 1) = true := by rw [HZs.out, if_pos hg]
            have HZ2 := Lib.hid (show lZw C (i + 1 - 1) = true by rw [HJ.out]; exact hZ2)
            go_wp2_with fail
            refine (HKd.out _ hbc).mono ?_
            rintro e wn ⟨rfl, hz⟩
            replace hbc := below_two hbc hz
            clear hz
            go_upto_region 19 with fail
            go_cut [75] (fun vt wx => vt = .bool false ∧ Below w2.heap.size w2 wx)
            case first =>
              cases t1 : [[83, 112], [90, 119], [66, 107], [67, 114], [76, 102]].contains nb with
              | true =>
                exact absurd (F1.out hE t1) (by decide)
              | false =>
                go_wp2_with fail
                refine (yamong_b nb [[83, 112], [90, 119], [66, 107], [67, 114], [76, 102]] 5 _ _ rfl rfl (by decide)).mono ?_
                rw [t1]
                rintro e wn ⟨rfl, hz⟩
                replace hbc := below_two hbc hz
                clear hz
                go_wp2_with fail
                go_meet
                exact ⟨rfl, hbc⟩
            case rest =>
              clear hbc
              obtain ⟨rfl, hbc⟩ := hcut
              go_upto_region 21 with fail
              go_cut [86] (fun vt wx => vt = .bool false ∧ Below w2.heap.size w2 wx)
              case first =>
                cases t1 : [[87, 106], [67, 108], [67, 112], [69, 120], [73, 115], [83, 121]].contains nb with
                | true =>
                  go_wp2_with fail
                  refine (yamong_b nb [[87, 106], [67, 108], [67, 112], [69, 120], [73, 115], [83, 121]] 6 _ _ rfl rfl (by decide)).mono ?_
                  rw [t1]
                  rintro e wn ⟨rfl, hz⟩
                  replace hbc := below_two hbc hz
                  clear hz
                  go_wp2_with fail
                  go_meet
                  exact ⟨rfl, hbc⟩
                | false =>
                  go_wp2_with fail
                  refine (yamong_b nb [[87, 106], [67, 108], [67, 112], [69, 120], [73, 115], [83, 121]] 6 _ _ rfl rfl (by decide)).mono ?_
                  rw [t1]
                  rintro e wn ⟨rfl, hz⟩
                  replace hbc := below_two hbc hz
                  clear hz
                  go_wp2_with fail
                  go_meet
                  exact ⟨rfl, hbc⟩
              case rest =>
                clear hbc
                obtain ⟨rfl, hbc⟩ := hcut
                go_wp2
                go_roundw
                case rel => exact ⟨i + 1, true, rfl, by go_num, by omega, by omega, HZ2, hbc⟩
                case measure => simp [intOf]; omega
          · exfalso
            have := HEnd.out
            rw [hE, hk] at this
            exact absurd this (by decide)
        · skip
          have s5 : ((bytesOf na).toList == [90, 119]) = false := by rw [HSA.out 5 [90, 119] rfl, hg]; rfl
          have s4 : ((bytesOf na).toList == [83, 112]) = true := by rw [HSA.out 4 [83, 112] rfl, hg]; rfl
          have s1 : ((bytesOf na).toList == [66, 107]) = false := by rw [HSA.out 1 [66, 107] rfl, hg]; rfl
          have s3 : ((bytesOf na).toList == [76, 102]) = false := by rw [HSA.out 3 [76, 102] rfl, hg]; rfl
          have s2 : ((bytesOf na).toList == [67, 114]) = false := by rw [HSA.out 2 [67, 114] rfl, hg]; rfl
          have s7 : ((bytesOf na).toList == [71, 108]) = false := by rw [HSA.out 7 [71, 108] rfl, hg]; rfl
          have s6 : ((bytesOf na).toList == [87, 106]) = false := by rw [HSA.out 6 [87, 106] rfl, hg]; rfl
          have s0 : ((bytesOf na).toList == [79, 116, 104, 101, 114]) = false := by rw [HSA.out 0 [79, 116, 104, 101, 114] rfl, hg]; rfl
          have s20 : ((bytesOf na).toList == [78, 117]) = false := by rw [HSA.out 20 [78, 117] rfl, hg]; rfl
          have hE : endsL ((gL (r1 : Int) : Nat) : Int) ((gL (r2 : Int) : Nat) : Int) = false := by rw [hg]; rfl
          rcases Hk3.out with hk | hk | hk
          · subst hk
            cases z with
            | true =>
              have hZ2 : lZw C (j + 1) = true := by rw [HZs.out, if_neg (by omega), if_neg (by omega)]
              have HZ2 := Lib.hid (show lZw C (i + 1 - 1) = true by rw [HJ.out]; exact hZ2)
              go_wp2_with fail
              refine (HKd.out _ hbc).mono ?_
              rintro e wn ⟨rfl, hz⟩
              replace hbc := below_two hbc hz
              clear hz
              go_upto_region 19 with fail
              go_cut [75] (fun vt wx => vt = .bool false ∧ Below w2.heap.size w2 wx)
              case first =>
                cases t1 : [[83, 112], [90, 119], [66, 107], [67, 114], [76, 102]].contains nb with
                | true =>
                  go_wp2_with fail
                  refine (yamong_b nb [[83, 112], [90, 119], [66, 107], [67, 114], [76, 102]] 5 _ _ rfl rfl (by decide)).mono ?_
                  rw [t1]
                  rintro e wn ⟨rfl, hz⟩
                  replace hbc := below_two hbc hz
                  clear hz
                  go_wp2_with fail
                  go_meet
                  exact ⟨rfl, hbc⟩
                | false =>
                  go_wp2_with fail
                  refine (yamong_b nb [[83, 112], [90, 119], [66, 107], [67, 114], [76, 102]] 5 _ _ rfl rfl (by decide)).mono ?_
                  rw [t1]
                  rintro e wn ⟨rfl, hz⟩
                  replace hbc := below_two hbc hz
                  clear hz
                  go_wp2_with fail
                  go_meet
                  exact ⟨rfl, hbc⟩
              case rest =>
                clear hbc
                obtain ⟨rfl, hbc⟩ := hcut
                go_upto_region 21 with fail
                go_cut [86] (fun vt wx => vt = .bool false ∧ Below w2.heap.size w2 wx)
                case first =>
                  cases t1 : [[87, 106], [67, 108], [67, 112], [69, 120], [73, 115], [83, 121]].contains nb with
                  | true =>
                    go_wp2_with fail
                    refine (yamong_b nb [[87, 106], [67, 108], [67, 112], [69, 120], [73, 115], [83, 121]] 6 _ _ rfl rfl (by decide)).mono ?_
                    rw [t1]
                    rintro e wn ⟨rfl, hz⟩
                    replace hbc := below_two hbc hz
                    clear hz
                    go_wp2_with fail
                    go_meet
                    exact ⟨rfl, hbc⟩
                  | false =>
                    go_wp2_with fail
                    refine (yamong_b nb [[87, 106], [67, 108], [67, 112], [69, 120], [73, 115], [83, 121]] 6 _ _ rfl rfl (by decide)).mono ?_
                    rw [t1]
                    rintro e wn ⟨rfl, hz⟩
                    replace hbc := below_two hbc hz
                    clear hz
                    go_wp2_with fail
                    go_meet
                    exact ⟨rfl, hbc⟩
                case rest =>
                  clear hbc
                  obtain ⟨rfl, hbc⟩ := hcut
                  go_wp2
                  go_roundw
                  case rel => exact ⟨i + 1, true, rfl, by go_num, by omega, by omega, HZ2, hbc⟩
                  case measure => simp [intOf]; omega
            | false =>
              have hZ2 : lZw C (j + 1) = false := by rw [HZs.out, if_neg (by omega), if_neg (by omega)]
              have HZ2 := Lib.hid (show lZw C (i + 1 - 1) = false by rw [HJ.out]; exact hZ2)
              go_wp2_with fail
              refine (HKd.out _ hbc).mono ?_
              rintro e wn ⟨rfl, hz⟩
              replace hbc := below_two hbc hz
              clear hz
              go_upto_region 19 with fail
              go_cut [75] (fun vt wx => vt = .bool false ∧ Below w2.heap.size w2 wx)
              case first =>
                cases t1 : [[83, 112], [90, 119], [66, 107], [67, 114], [76, 102]].contains nb with
                | true =>
                  go_wp2_with fail
                  refine (yamong_b nb [[83, 112], [90, 119], [66, 107], [67, 114], [76, 102]] 5 _ _ rfl rfl (by decide)).mono ?_
                  rw [t1]
                  rintro e wn ⟨rfl, hz⟩
                  replace hbc := below_two hbc hz
                  clear hz
                  go_wp2_with fail
                  go_meet
                  exact ⟨rfl, hbc⟩
                | false =>
                  go_wp2_with fail
                  refine (yamong_b nb [[83, 112], [90, 119], [66, 107], [67, 114], [76, 102]] 5 _ _ rfl rfl (by decide)).mono ?_
                  rw [t1]
                  rintro e wn ⟨rfl, hz⟩
                  replace hbc := below_two hbc hz
                  clear hz
                  go_wp2_with fail
                  go_meet
                  exact ⟨rfl, hbc⟩
              case rest =>
                clear hbc
                obtain ⟨rfl, hbc⟩ := hcut
                go_upto_region 21 with fail
                go_cut [86] (fun vt wx => vt = .bool false ∧ Below w2.heap.size w2 wx)
                case first =>
                  cases t1 : [[87, 106], [67, 108], [67, 112], [69, 120], [73, 115], [83, 121]].contains nb with
                  | true =>
                    go_wp2_with fail
                    refine (yamong_b nb [[87, 106], [67, 108], [67, 112], [69, 120], [73, 115], [83, 121]] 6 _ _ rfl rfl (by decide)).mono ?_
                    rw [t1]
                    rintro e wn ⟨rfl, hz⟩
                    replace hbc := below_two hbc hz
                    clear hz
                    go_wp2_with fail
                    go_meet
                    exact ⟨rfl, hbc⟩
                  | false =>
                    go_wp2_with fail
                    refine (yamong_b nb [[87, 106], [67, 108], [67, 112], [69, 120], [73, 115], [83, 121]] 6 _ _ rfl rfl (by decide)).mono ?_
                    rw [t1]
                    rintro e wn ⟨rfl, hz⟩
                    replace hbc := below_two hbc hz
                    clear hz
                    go_wp2_with fail
                    go_meet
                    exact ⟨rfl, hbc⟩
                case rest =>
                  clear hbc
                  obtain ⟨rfl, hbc⟩ := hcut
                  go_wp2
                  go_roundw
                  case rel => exact ⟨i + 1, false, rfl, by go_num, by omega, by omega, HZ2, hbc⟩
                  case measure => simp [intOf]; omega
          · subst hk
            cases z with
            | true =>
              have hZ2 : lZw C (j + 1) = true := by rw [HZs.out, if_neg (by omega), if_neg (by omega)]
              have HZ2 := Lib.hid (show lZw C (i + 1 - 1) = true by rw [HJ.out]; exact hZ2)
              go_wp2_with fail
              refine (HKd.out _ hbc).mono ?_
              rintro e wn ⟨rfl, hz⟩
              replace hbc := below_two hbc hz
              clear hz
              go_upto_region 19 with fail
              go_cut [75] (fun vt wx => vt = .bool false ∧ Below w2.heap.size w2 wx)
              case first =>
                cases t1 : [[83, 112], [90, 119], [66, 107], [67, 114], [76, 102]].contains nb with
                | true =>
                  exact absurd (F1.out hE t1) (by decide)
                | false =>
                  go_wp2_with fail
                  refine (yamong_b nb [[83, 112], [90, 119], [66, 107], [67, 114], [76, 102]] 5 _ _ rfl rfl (by decide)).mono ?_
                  rw [t1]
                  rintro e wn ⟨rfl, hz⟩
                  replace hbc := below_two hbc hz
                  clear hz
                  go_wp2_with fail
                  go_meet
                  exact ⟨rfl, hbc⟩
              case rest =>
                clear hbc
                obtain ⟨rfl, hbc⟩ := hcut
                go_upto_region 21 with fail
                go_cut [86] (fun vt wx => vt = .bool false ∧ Below w2.heap.size w2 wx)
                case first =>
                  cases t1 : [[87, 106], [67, 108], [67, 112], [69, 120], [73, 115], [83, 121]].contains nb with
                  | true =>
                    go_wp2_with fail
                    refine (yamong_b nb [[87, 106], [67, 108], [67, 112], [69, 120], [73, 115], [83, 121]] 6 _ _ rfl rfl (by decide)).mono ?_
                    rw [t1]
                    rintro e wn ⟨rfl, hz⟩
                    replace hbc := below_two hbc hz
                    clear hz
                    go_wp2_with fail
                    go_meet
                    exact ⟨rfl, hbc⟩
                  | false =>
                    go_wp2_with fail
                    refine (yamong_b nb [[87, 106], [67, 108], [67, 112], [69, 120], [73, 115], [83, 121]] 6 _ _ rfl rfl (by decide)).mono ?_
                    rw [t1]
                    rintro e wn ⟨rfl, hz⟩
                    replace hbc := below_two hbc hz
                    clear hz
                    go_wp2_with fail
                    go_meet
                    exact ⟨rfl, hbc⟩
                case rest =>
                  clear hbc
                  obtain ⟨rfl, hbc⟩ := hcut
                  go_wp2
                  go_roundw
                  case rel => exact ⟨i + 1, true, rfl, by go_num, by omega, by omega, HZ2, hbc⟩
                  case measure => simp [intOf]; omega
            | false =>
              have hZ2 : lZw C (j + 1) = false := by rw [HZs.out, if_neg (by omega), if_neg (by omega)]
              have HZ2 := Lib.hid (show lZw C (i + 1 - 1) = false by rw [HJ.out]; exact hZ2)
              go_wp2_with fail
              refine (HKd.out _ hbc).mono ?_
              rintro e wn ⟨rfl, hz⟩
              replace hbc := below_two hbc hz
              clear hz
              go_upto_region 19 with fail
              go_cut [75] (fun vt wx => vt = .bool false ∧ Below w2.heap.size w2 wx)
              case first =>
                cases t1 : [[83, 112], [90, 119], [66, 107], [67, 114], [76, 102]].contains nb with
                | true =>
                  exact absurd (F1.out hE t1) (by decide)
                | false =>
                  go_wp2_with fail
                  refine (yamong_b nb [[83, 112], [90, 119], [66, 107], [67, 114], [76, 102]] 5 _ _ rfl rfl (by decide)).mono ?_
                  rw [t1]
                  rintro e wn ⟨rfl, hz⟩
                  replace hbc := below_two hbc hz
                  clear hz
                  go_wp2_with fail
                  go_meet
                  exact ⟨rfl, hbc⟩
              case rest =>
                clear hbc
                obtain ⟨rfl, hbc⟩ := hcut
                go_upto_region 21 with fail
                go_cut [86] (fun vt wx => vt = .bool false ∧ Below w2.heap.size w2 wx)
                case first =>
                  cases t1 : [[87, 106], [67, 108], [67, 112], [69, 120], [73, 115], [83, 121]].contains nb with
                  | true =>
                    exact absurd (F2.out hE t1 hZ2) (by decide)
                  | false =>
                    go_wp2_with fail
                    refine (yamong_b nb [[87, 106], [67, 108], [67, 112], [69, 120], [73, 115], [83, 121]] 6 _ _ rfl rfl (by decide)).mono ?_
                    rw [t1]
                    rintro e wn ⟨rfl, hz⟩
                    replace hbc := below_two hbc hz
                    clear hz
                    go_wp2_with fail
                    go_meet
                    exact ⟨rfl, hbc⟩
                case rest =>
                  clear hbc
                  obtain ⟨rfl, hbc⟩ := hcut
                  go_wp2
                  go_roundw
                  case rel => exact ⟨i + 1, false, rfl, by go_num, by omega, by omega, HZ2, hbc⟩
                  case measure => simp [intOf]; omega
          · exfalso
            have := HEnd.out
            rw [hE, hk] at this
            exact absurd this (by decide)
        · skip
          have s5 : ((bytesOf na).toList == [90, 119]) = false := by rw [HSA.out 5 [90, 119] rfl, hg]; rfl
          have s4 : ((bytesOf na).toList == [83, 112]) = false := by rw [HSA.out 4 [83, 112] rfl, hg]; rfl
          have s1 : ((bytesOf na).toList == [66, 107]) = true := by rw [HSA.out 1 [66, 107] rfl, hg]; rfl
          have s3 : ((bytesOf na).toList == [76, 102]) = false := by rw [HSA.out 3 [76, 102] rfl, hg]; rfl
          have s2 : ((bytesOf na).toList == [67, 114]) = false := by rw [HSA.out 2 [67, 114] rfl, hg]; rfl
          have s7 : ((bytesOf na).toList == [71, 108]) = false := by rw [HSA.out 7 [71, 108] rfl, hg]; rfl
          have s6 : ((bytesOf na).toList == [87, 106]) = false := by rw [HSA.out 6 [87, 106] rfl, hg]; rfl
          have s0 : ((bytesOf na).toList == [79, 116, 104, 101, 114]) = false := by rw [HSA.out 0 [79, 116, 104, 101, 114] rfl, hg]; rfl
          have s20 : ((bytesOf na).toList == [78, 117]) = false := by rw [HSA.out 20 [78, 117] rfl, hg]; rfl
          have hE : endsL ((gL (r1 : Int) : Nat) : Int) ((gL (r2 : Int) : Nat) : Int) = true := by rw [hg]; rfl
          have hk : kk = 2 := by
            have := HEnd.out
            rw [hE] at this
            exact beq_iff_eq.1 this.symm
          subst hk
          have hZ2 : lZw C (j + 1) = false := by rw [HZs.out, if_neg (by omega), if_pos (by omega)]
          have HZ2 := Lib.hid (show lZw C (i + 1 - 1) = false by rw [HJ.out]; exact hZ2)
          clear F1 F2 F3 F4 F5 HEnd HSA HSB hE hZ2
          go_wp2_with fail
          refine (HKd.out _ hbc).mono ?_
          rintro e wn ⟨rfl, hz⟩
          replace hbc := below_two hbc hz
          clear hz
          go_wp2
          go_roundw
          case rel => exact ⟨i + 1, false, rfl, by go_num, by omega, by omega, HZ2, hbc⟩
          case measure => simp [intOf]; omega
        · skip
          have s5 : ((bytesOf na).toList == [90, 119]) = false := by rw [HSA.out 5 [90, 119] rfl, hg]; rfl
          have s4 : ((bytesOf na).toList == [83, 112]) = false := by rw [HSA.out 4 [83, 112] rfl, hg]; rfl
          have s1 : ((bytesOf na).toList == [66, 107]) = false := by rw [HSA.out 1 [66, 107] rfl, hg]; rfl
          have s3 : ((bytesOf na).toList == [76, 102]) = true := by rw [HSA.out 3 [76, 102] rfl, hg]; rfl
          have s2 : ((bytesOf na).toList == [67, 114]) = false := by rw [HSA.out 2 [67, 114] rfl, hg]; rfl
          have s7 : ((bytesOf na).toList == [71, 108]) = false := by rw [HSA.out 7 [71, 108] rfl, hg]; rfl
          have s6 : ((bytesOf na).toList == [87, 106]) = false := by rw [HSA.out 6 [87, 106] rfl, hg]; rfl
          have s0 : ((bytesOf na).toList == [79, 116, 104, 101, 114]) = false := by rw [HSA.out 0 [79, 116, 104, 101, 114] rfl, hg]; rfl
          have s20 : ((bytesOf na).toList == [78, 117]) = false := by rw [HSA.out 20 [78, 117] rfl, hg]; rfl
          have hE : endsL ((gL (r1 : Int) : Nat) : Int) ((gL (r2 : Int) : Nat) : Int) = true := by rw [hg]; rfl
          have hk : kk = 2 := by
            have := HEnd.out
            rw [hE] at this
            exact beq_iff_eq.1 this.symm
          subst hk
          have hZ2 : lZw C (j + 1) = false := by rw [HZs.out, if_neg (by omega), if_pos (by omega)]
          have HZ2 := Lib.hid (show lZw C (i + 1 - 1) = false by rw [HJ.out]; exact hZ2)
          clear F1 F2 F3 F4 F5 HEnd HSA HSB hE hZ2
          go_wp2_with fail
          refine (HKd.out _ hbc).mono ?_
          rintro e wn ⟨rfl, hz⟩
          replace hbc := below_two hbc hz
          clear hz
          go_wp2
          go_roundw
          case rel => exact ⟨i + 1, false, rfl, by go_num, by omega, by omega, HZ2, hbc⟩
          case measure => simp [intOf]; omega
        · skip
          have s5 : ((bytesOf na).toList == [90, 119]) = false := by rw [HSA.out 5 [90, 119] rfl, hg]; rfl
          have s4 : ((bytesOf na).toList == [83, 112]) = false := by rw [HSA.out 4 [83, 112] rfl, hg]; rfl
          have s1 : ((bytesOf na).toList == [66, 107]) = false := by rw [HSA.out 1 [66, 107] rfl, hg]; rfl
          have s3 : ((bytesOf na).toList == [76, 102]) = false := by rw [HSA.out 3 [76, 102] rfl, hg]; rfl
          have s2 : ((bytesOf na).toList == [67, 114]) = true := by rw [HSA.out 2 [67, 114] rfl, hg]; rfl
          have s7 : ((bytesOf na).toList == [71, 108]) = false := by rw [HSA.out 7 [71, 108] rfl, hg]; rfl
          have s6 : ((bytesOf na).toList == [87, 106]) = false := by rw [HSA.out 6 [87, 106] rfl, hg]; rfl
          have s0 : ((bytesOf na).toList == [79, 116, 104, 101, 114]) = false := by rw [HSA.out 0 [79, 116, 104, 101, 114] rfl, hg]; rfl
          have s20 : ((bytesOf na).toList == [78, 117]) = false := by rw [HSA.out 20 [78, 117] rfl, hg]; rfl
          by_cases hb3 : gL (r2 : Int) = 3
          · have sb : ((bytesOf nb).toList == [76, 102]) = true := by rw [HSB.out 3 _ rfl, hb3]; rfl
            have hE : endsL ((gL (r1 : Int) : Nat) : Int) ((gL (r2 : Int) : Nat) : Int) = false := by rw [hg, hb3]; rfl
            rcases Hk3.out with hk | hk | hk
            · subst hk
              have hZ2 : lZw C (j + 1) = false := by rw [HZs.out, if_neg (by omega), if_pos (by omega)]
              have HZ2 := Lib.hid (show lZw C (i + 1 - 1) = false by rw [HJ.out]; exact hZ2)
              go_wp2_with fail
              refine (HKd.out _ hbc).mono ?_
              rintro e wn ⟨rfl, hz⟩
              replace hbc := below_two hbc hz
              clear hz
              go_upto_region 19 with fail
              go_cut [75] (fun vt wx => vt = .bool false ∧ Below w2.heap.size w2 wx)
              case first =>
                cases t1 : [[83, 112], [90, 119], [66, 107], [67, 114], [76, 102]].contains nb with
                | true =>
                  go_wp2_with fail
                  refine (yamong_b nb [[83, 112], [90, 119], [66, 107], [67, 114], [76, 102]] 5 _ _ rfl rfl (by decide)).mono ?_
                  rw [t1]
                  rintro e wn ⟨rfl, hz⟩
                  replace hbc := below_two hbc hz
                  clear hz
                  go_wp2_with fail
                  go_meet
                  exact ⟨rfl, hbc⟩
                | false =>
                  go_wp2_with fail
                  refine (yamong_b nb [[83, 112], [90, 119], [66, 107], [67, 114], [76, 102]] 5 _ _ rfl rfl (by decide)).mono ?_
                  rw [t1]
                  rintro e wn ⟨rfl, hz⟩
                  replace hbc := below_two hbc hz
                  clear hz
                  go_wp2_with fail
                  go_meet
                  exact ⟨rfl, hbc⟩
              case rest =>
                clear hbc
                obtain ⟨rfl, hbc⟩ := hcut
                go_upto_region 21 with fail
                go_cut [86] (fun vt wx => vt = .bool false ∧ Below w2.heap.size w2 wx)
                case first =>
                  cases t1 : [[87, 106], [67, 108], [67, 112], [69, 120], [73, 115], [83, 121]].contains nb with
                  | true =>
                    go_wp2_with fail
                    refine (yamong_b nb [[87, 106], [67, 108], [67, 112], [69, 120], [73, 115], [83, 121]] 6 _ _ rfl rfl (by decide)).mono ?_
                    rw [t1]
                    rintro e wn ⟨rfl, hz⟩
                    replace hbc := below_two hbc hz
                    clear hz
                    go_wp2_with fail
                    go_meet
                    exact ⟨rfl, hbc⟩
                  | false =>
                    go_wp2_with fail
                    refine (yamong_b nb [[87, 106], [67, 108], [67, 112], [69, 120], [73, 115], [83, 121]] 6 _ _ rfl rfl (by decide)).mono ?_
                    rw [t1]
                    rintro e wn ⟨rfl, hz⟩
                    replace hbc := below_two hbc hz
                    clear hz
                    go_wp2_with fail
                    go_meet
                    exact ⟨rfl, hbc⟩
                case rest =>
                  clear hbc
                  obtain ⟨rfl, hbc⟩ := hcut
                  go_wp2
                  go_roundw
                  case rel => exact ⟨i + 1, false, rfl, by go_num, by omega, by omega, HZ2, hbc⟩
                  case measure => simp [intOf]; omega
            · subst hk
              have hZ2 : lZw C (j + 1) = false := by rw [HZs.out, if_neg (by omega), if_pos (by omega)]
              have HZ2 := Lib.hid (show lZw C (i + 1 - 1) = false by rw [HJ.out]; exact hZ2)
              go_wp2_with fail
              refine (HKd.out _ hbc).mono ?_
              rintro e wn ⟨rfl, hz⟩
              replace hbc := below_two hbc hz
              clear hz
              go_upto_region 19 with fail
              go_cut [75] (fun vt wx => vt = .bool false ∧ Below w2.heap.size w2 wx)
              case first =>
                cases t1 : [[83, 112], [90, 119], [66, 107], [67, 114], [76, 102]].contains nb with
                | true =>
                  exact absurd (F1.out hE t1) (by decide)
                | false =>
                  go_wp2_with fail
                  refine (yamong_b nb [[83, 112], [90, 119], [66, 107], [67, 114], [76, 102]] 5 _ _ rfl rfl (by decide)).mono ?_
                  rw [t1]
                  rintro e wn ⟨rfl, hz⟩
                  replace hbc := below_two hbc hz
                  clear hz
                  go_wp2_with fail
                  go_meet
                  exact ⟨rfl, hbc⟩
              case rest =>
                clear hbc
                obtain ⟨rfl, hbc⟩ := hcut
                go_upto_region 21 with fail
                go_cut [86] (fun vt wx => vt = .bool false ∧ Below w2.heap.size w2 wx)
                case first =>
                  cases t1 : [[87, 106], [67, 108], [67, 112], [69, 120], [73, 115], [83, 121]].contains nb with
                  | true =>
                    exact absurd (F2.out hE t1 hZ2) (by decide)
                  | false =>
                    go_wp2_with fail
                    refine (yamong_b nb [[87, 106], [67, 108], [67, 112], [69, 120], [73, 115], [83, 121]] 6 _ _ rfl rfl (by decide)).mono ?_
                    rw [t1]
                    rintro e wn ⟨rfl, hz⟩
                    replace hbc := below_two hbc hz
                    clear hz
                    go_wp2_with fail
                    go_meet
                    exact ⟨rfl, hbc⟩
                case rest =>
                  clear hbc
                  obtain ⟨rfl, hbc⟩ := hcut
                  go_wp2
                  go_roundw
                  case rel => exact ⟨i + 1, false, rfl, by go_num, by omega, by omega, HZ2, hbc⟩
                  case measure => simp [intOf]; omega
            · exfalso
              have := HEnd.out
              rw [hE, hk] at this
              exact absurd this (by decide)
          · have sb : ((bytesOf nb).toList == [76, 102]) = false := by rw [HSB.out 3 _ rfl]; exact beq_eq_false_iff_ne.2 (by omega)
            have hE : endsL ((gL (r1 : Int) : Nat) : Int) ((gL (r2 : Int) : Nat) : Int) = true := by unfold endsL; rw [hg, show (((gL (r2 : Int) : Nat) : Int) != 3) = true from bne_iff_ne.2 (by omega)]; rfl
            have hk : kk = 2 := by
              have := HEnd.out
              rw [hE] at this
              exact beq_iff_eq.1 this.symm
            subst hk
            have hZ2 : lZw C (j + 1) = false := by rw [HZs.out, if_neg (by omega), if_pos (by omega)]
            have HZ2 := Lib.hid (show lZw C (i + 1 - 1) = false by rw [HJ.out]; exact hZ2)
            clear F1 F2 F3 F4 F5 HEnd HSA HSB hE hZ2
            go_wp2_with fail
            refine (HKd.out _ hbc).mono ?_
            rintro e wn ⟨rfl, hz⟩
            replace hbc := below_two hbc hz
            clear hz
            go_wp2
            go_roundw
            case rel => exact ⟨i + 1, false, rfl, by go_num, by omega, by omega, HZ2, hbc⟩
            case measure => simp [intOf]; omega
        · skip
          have s5 : ((bytesOf na).toList == [90, 119]) = false := by rw [HSA.out 5 [90, 119] rfl, hg]; rfl
          have s4 : ((bytesOf na).toList == [83, 112]) = false := by rw [HSA.out 4 [83, 112] rfl, hg]; rfl
          have s1 : ((bytesOf na).toList == [66, 107]) = false := by rw [HSA.out 1 [66, 107] rfl, hg]; rfl
          have s3 : ((bytesOf na).toList == [76, 102]) = false := by rw [HSA.out 3 [76, 102] rfl, hg]; rfl
          have s2 : ((bytesOf na).toList == [67, 114]) = false := by rw [HSA.out 2 [67, 114] rfl, hg]; rfl
          have s7 : ((bytesOf na).toList == [71, 108]) = true := by rw [HSA.out 7 [71, 108] rfl, hg]; rfl
          have s6 : ((bytesOf na).toList == [87, 106]) = false := by rw [HSA.out 6 [87, 106] rfl, hg]; rfl
          have s0 : ((bytesOf na).toList == [79, 116, 104, 101, 114]) = false := by rw [HSA.out 0 [79, 116, 104, 101, 114] rfl, hg]; rfl
          have s20 : ((bytesOf na).toList == [78, 117]) = false := by rw [HSA.out 20 [78, 117] rfl, hg]; rfl
          have hE : endsL ((gL (r1 : Int) : Nat) : Int) ((gL (r2 : Int) : Nat) : Int) = false := by rw [hg]; rfl
          rcases Hk3.out with hk | hk | hk
          · subst hk
            have hZ2 : lZw C (j + 1) = false := by rw [HZs.out, if_neg (by omega), if_pos (by omega)]
            have HZ2 := Lib.hid (show lZw C (i + 1 - 1) = false by rw [HJ.out]; exact hZ2)
            go_wp2_with fail
            refine (HKd.out _ hbc).mono ?_
            rintro e wn ⟨rfl, hz⟩
            replace hbc := below_two hbc hz
            clear hz
            go_upto_region 19 with fail
            go_cut [75] (fun vt wx => vt = .bool false ∧ Below w2.heap.size w2 wx)
            case first =>
              cases t1 : [[83, 112], [90, 119], [66, 107], [67, 114], [76, 102]].contains nb with
              | true =>
                go_wp2_with fail
                refine (yamong_b nb [[83, 112], [90, 119], [66, 107], [67, 114], [76, 102]] 5 _ _ rfl rfl (by decide)).mono ?_
                rw [t1]
                rintro e wn ⟨rfl, hz⟩
                replace hbc := below_two hbc hz
                clear hz
                go_wp2_with fail
                go_meet
                exact ⟨rfl, hbc⟩
              | false =>
                go_wp2_with fail
                refine (yamong_b nb [[83, 112], [90, 119], [66, 107], [67, 114], [76, 102]] 5 _ _ rfl rfl (by decide)).mono ?_
                rw [t1]
                rintro e wn ⟨rfl, hz⟩
                replace hbc := below_two hbc hz
                clear hz
                go_wp2_with fail
                go_meet
                exact ⟨rfl, hbc⟩
            case rest =>
              clear hbc
              obtain ⟨rfl, hbc⟩ := hcut
              go_upto_region 21 with fail
              go_cut [86] (fun vt wx => vt = .bool false ∧ Below w2.heap.size w2 wx)
              case first =>
                cases t1 : [[87, 106], [67, 108], [67, 112], [69, 120], [73, 115], [83, 121]].contains nb with
                | true =>
                  go_wp2_with fail
                  refine (yamong_b nb [[87, 106], [67, 108], [67, 112], [69, 120], [73, 115], [83, 121]] 6 _ _ rfl rfl (by decide)).mono ?_
                  rw [t1]
                  rintro e wn ⟨rfl, hz⟩
                  replace hbc := below_two hbc hz
                  clear hz
                  go_wp2_with fail
                  go_meet
                  exact ⟨rfl, hbc⟩
                | false =>
                  go_wp2_with fail
                  refine (yamong_b nb [[87, 106], [67, 108], [67, 112], [69, 120], [73, 115], [83, 121]] 6 _ _ rfl rfl (by decide)).mono ?_
                  rw [t1]
                  rintro e wn ⟨rfl, hz⟩
                  replace hbc := below_two hbc hz
                  clear hz
                  go_wp2_with fail
                  go_meet
                  exact ⟨rfl, hbc⟩
              case rest =>
                clear hbc
                obtain ⟨rfl, hbc⟩ := hcut
                go_wp2
                go_roundw
                case rel => exact ⟨i + 1, false, rfl, by go_num, by omega, by omega, HZ2, hbc⟩
                case measure => simp [intOf]; omega
          · subst hk
            have hZ2 : lZw C (j + 1) = false := by rw [HZs.out, if_neg (by omega), if_pos (by omega)]
            have HZ2 := Lib.hid (show lZw C (i + 1 - 1) = false by rw [HJ.out]; exact hZ2)
            exact absurd (F3.out (by omega)) (by decide)
          · exfalso
            have := HEnd.out
            rw [hE, hk] at this
            exact absurd this (by decide)
        · skip
          have s5 : ((bytesOf na).toList == [90, 119]) = false := by rw [HSA.out 5 [90, 119] rfl, hg]; rfl
          have s4 : ((bytesOf na).toList == [83, 112]) = false := by rw [HSA.out 4 [83, 112] rfl, hg]; rfl
          have s1 : ((bytesOf na).toList == [66, 107]) = false := by rw [HSA.out 1 [66, 107] rfl, hg]; rfl
          have s3 : ((bytesOf na).toList == [76, 102]) = false := by rw [HSA.out 3 [76, 102] rfl, hg]; rfl
          have s2 : ((bytesOf na).toList == [67, 114]) = false := by rw [HSA.out 2 [67, 114] rfl, hg]; rfl
          have s7 : ((bytesOf na).toList == [71, 108]) = false := by rw [HSA.out 7 [71, 108] rfl, hg]; rfl
          have s6 : ((bytesOf na).toList == [87, 106]) = true := by rw [HSA.out 6 [87, 106] rfl, hg]; rfl
          have s0 : ((bytesOf na).toList == [79, 116, 104, 101, 114]) = false := by rw [HSA.out 0 [79, 116, 104, 101, 114] rfl, hg]; rfl
          have s20 : ((bytesOf na).toList == [78, 117]) = false := by rw [HSA.out 20 [78, 117] rfl, hg]; rfl
          have hE : endsL ((gL (r1 : Int) : Nat) : Int) ((gL (r2 : Int) : Nat) : Int) = false := by rw [hg]; rfl
          rcases Hk3.out with hk | hk | hk
          · subst hk
            have hZ2 : lZw C (j + 1) = false := by rw [HZs.out, if_neg (by omega), if_pos (by omega)]
            have HZ2 := Lib.hid (show lZw C (i + 1 - 1) = false by rw [HJ.out]; exact hZ2)
            go_wp2_with fail
            refine (HKd.out _ hbc).mono ?_
            rintro e wn ⟨rfl, hz⟩
            replace hbc := below_two hbc hz
            clear hz
            go_upto_region 19 with fail
            go_cut [75] (fun vt wx => vt = .bool false ∧ Below w2.heap.size w2 wx)
            case first =>
              cases t1 : [[83, 112], [90, 119], [66, 107], [67, 114], [76, 102]].contains nb with
              | true =>
                go_wp2_with fail
                refine (yamong_b nb [[83, 112], [90, 119], [66, 107], [67, 114], [76, 102]] 5 _ _ rfl rfl (by decide)).mono ?_
                rw [t1]
                rintro e wn ⟨rfl, hz⟩
                replace hbc := below_two hbc hz
                clear hz
                go_wp2_with fail
                go_meet
                exact ⟨rfl, hbc⟩
              | false =>
                go_wp2_with fail
                refine (yamong_b nb [[83, 112], [90, 119], [66, 107], [67, 114], [76, 102]] 5 _ _ rfl rfl (by decide)).mono ?_
                rw [t1]
                rintro e wn ⟨rfl, hz⟩
                replace hbc := below_two hbc hz
                clear hz
                go_wp2_with fail
                go_meet
                exact ⟨rfl, hbc⟩
            case rest =>
              clear hbc
              obtain ⟨rfl, hbc⟩ := hcut
              go_upto_region 21 with fail
              go_cut [86] (fun vt wx => vt = .bool false ∧ Below w2.heap.size w2 wx)
              case first =>
                cases t1 : [[87, 106], [67, 108], [67, 112], [69, 120], [73, 115], [83, 121]].contains nb with
                | true =>
                  go_wp2_with fail
                  refine (yamong_b nb [[87, 106], [67, 108], [67, 112], [69, 120], [73, 115], [83, 121]] 6 _ _ rfl rfl (by decide)).mono ?_
                  rw [t1]
                  rintro e wn ⟨rfl, hz⟩
                  replace hbc := below_two hbc hz
                  clear hz
                  go_wp2_with fail
                  go_meet
                  exact ⟨rfl, hbc⟩
                | false =>
                  go_wp2_with fail
                  refine (yamong_b nb [[87, 106], [67, 108], [67, 112], [69, 120], [73, 115], [83, 121]] 6 _ _ rfl rfl (by decide)).mono ?_
                  rw [t1]
                  rintro e wn ⟨rfl, hz⟩
                  replace hbc := below_two hbc hz
                  clear hz
                  go_wp2_with fail
                  go_meet
                  exact ⟨rfl, hbc⟩
              case rest =>
                clear hbc
                obtain ⟨rfl, hbc⟩ := hcut
                go_wp2
                go_roundw
                case rel => exact ⟨i + 1, false, rfl, by go_num, by omega, by omega, HZ2, hbc⟩
                case measure => simp [intOf]; omega
          · subst hk
            have hZ2 : lZw C (j + 1) = false := by rw [HZs.out, if_neg (by omega), if_pos (by omega)]
            have HZ2 := Lib.hid (show lZw C (i + 1 - 1) = false by rw [HJ.out]; exact hZ2)
            exact absurd (F3.out (by omega)) (by decide)
          · exfalso
            have := HEnd.out
            rw [hE, hk] at this
            exact absurd this (by decide)
        · skip
          have s5 : ((bytesOf na).toList == [90, 119]) = false := by rw [HSA.out 5 [90, 119] rfl, hg]; rfl
          have s4 : ((bytesOf na).toList == [83, 112]) = false := by rw [HSA.out 4 [83, 112] rfl, hg]; rfl
          have s1 : ((bytesOf na).toList == [66, 107]) = false := by rw [HSA.out 1 [66, 107] rfl, hg]; rfl
          have s3 : ((bytesOf na).toList == [76, 102]) = false := by rw [HSA.out 3 [76, 102] rfl, hg]; rfl
          have s2 : ((bytesOf na).toList == [67, 114]) = false := by rw [HSA.out 2 [67, 114] rfl, hg]; rfl
          have s7 : ((bytesOf na).toList == [71, 108]) = false := by rw [HSA.out 7 [71, 108] rfl, hg]; rfl
          have s6 : ((bytesOf na).toList == [87, 106]) = false := by rw [HSA.out 6 [87, 106] rfl, hg]; rfl
          have s0 : ((bytesOf na).toList == [79, 116, 104, 101, 114]) = true := by rw [HSA.out 0 [79, 116, 104, 101, 114] rfl, hg]; rfl
          have s20 : ((bytesOf na).toList == [78, 117]) = false := by rw [HSA.out 20 [78, 117] rfl, hg]; rfl
          have hE : endsL ((gL (r1 : Int) : Nat) : Int) ((gL (r2 : Int) : Nat) : Int) = false := by rw [hg]; rfl
          rcases Hk3.out with hk | hk | hk
          · subst hk
            have hZ2 : lZw C (j + 1) = false := by rw [HZs.out, if_neg (by omega), if_pos (by omega)]
            have HZ2 := Lib.hid (show lZw C (i + 1 - 1) = false by rw [HJ.out]; exact hZ2)
            go_wp2_with fail
            refine (HKd.out _ hbc).mono ?_
            rintro e wn ⟨rfl, hz⟩
            replace hbc := below_two hbc hz
            clear hz
            go_upto_region 19 with fail
            go_cut [75] (fun vt wx => vt = .bool false ∧ Below w2.heap.size w2 wx)
            case first =>
              cases t1 : [[83, 112], [90, 119], [66, 107], [67, 114], [76, 102]].contains nb with
              | true =>
                go_wp2_with fail
                refine (yamong_b nb [[83, 112], [90, 119], [66, 107], [67, 114], [76, 102]] 5 _ _ rfl rfl (by decide)).mono ?_
                rw [t1]
                rintro e wn ⟨rfl, hz⟩
                replace hbc := below_two hbc hz
                clear hz
                go_wp2_with fail
                go_meet
                exact ⟨rfl, hbc⟩
              | false =>
                go_wp2_with fail
                refine (yamong_b nb [[83, 112], [90, 119], [66, 107], [67, 114], [76, 102]] 5 _ _ rfl rfl (by decide)).mono ?_
                rw [t1]
                rintro e wn ⟨rfl, hz⟩
                replace hbc := below_two hbc hz
                clear hz
                go_wp2_with fail
                go_meet
                exact ⟨rfl, hbc⟩
            case rest =>
              clear hbc
              obtain ⟨rfl, hbc⟩ := hcut
              go_upto_region 21 with fail
              go_cut [86] (fun vt wx => vt = .bool false ∧ Below w2.heap.size w2 wx)
              case first =>
                cases t1 : [[87, 106], [67, 108], [67, 112], [69, 120], [73, 115], [83, 121]].contains nb with
                | true =>
                  go_wp2_with fail
                  refine (yamong_b nb [[87, 106], [67, 108], [67, 112], [69, 120], [73, 115], [83, 121]] 6 _ _ rfl rfl (by decide)).mono ?_
                  rw [t1]
                  rintro e wn ⟨rfl, hz⟩
                  replace hbc := below_two hbc hz
                  clear hz
                  go_wp2_with fail
                  go_meet
                  exact ⟨rfl, hbc⟩
                | false =>
                  go_wp2_with fail
                  refine (yamong_b nb [[87, 106], [67, 108], [67, 112], [69, 120], [73, 115], [83, 121]] 6 _ _ rfl rfl (by decide)).mono ?_
                  rw [t1]
                  rintro e wn ⟨rfl, hz⟩
                  replace hbc := below_two hbc hz
                  clear hz
                  go_wp2_with fail
                  go_meet
                  exact ⟨rfl, hbc⟩
              case rest =>
                clear hbc
                obtain ⟨rfl, hbc⟩ := hcut
                go_upto_region 25 with fail
                go_cut [107] (fun vt wx => vt = .bool false ∧ Below w2.heap.size w2 wx)
                case first =>
                  cases t1 : [[79, 116, 104, 101, 114], [78, 117], [71, 108], [87, 106]].contains nb with
                  | true =>
                    go_wp2_with fail
                    refine (yamong_b nb [[79, 116, 104, 101, 114], [78, 117], [71, 108], [87, 106]] 4 _ _ rfl rfl (by decide)).mono ?_
                    rw [t1]
                    rintro e wn ⟨rfl, hz⟩
                    replace hbc := below_two hbc hz
                    clear hz
                    go_wp2_with fail
                    go_meet
                    exact ⟨rfl, hbc⟩
                  | false =>
                    go_wp2_with fail
                    refine (yamong_b nb [[79, 116, 104, 101, 114], [78, 117], [71, 108], [87, 106]] 4 _ _ rfl rfl (by decide)).mono ?_
                    rw [t1]
                    rintro e wn ⟨rfl, hz⟩
                    replace hbc := below_two hbc hz
                    clear hz
                    go_wp2_with fail
                    go_meet
                    exact ⟨rfl, hbc⟩
                case rest =>
                  clear hbc
                  obtain ⟨rfl, hbc⟩ := hcut
                  go_wp2
                  go_roundw
                  case rel => exact ⟨i + 1, false, rfl, by go_num, by omega, by omega, HZ2, hbc⟩
                  case measure => simp [intOf]; omega
          · subst hk
            have hZ2 : lZw C (j + 1) = false := by rw [HZs.out, if_neg (by omega), if_pos (by omega)]
            have HZ2 := Lib.hid (show lZw C (i + 1 - 1) = false by rw [HJ.out]; exact hZ2)
            go_wp2_with fail
            refine (HKd.out _ hbc).mono ?_
            rintro e wn ⟨rfl, hz⟩
            replace hbc := below_two hbc hz
            clear hz
            go_upto_region 19 with fail
            go_cut [75] (fun vt wx => vt = .bool false ∧ Below w2.heap.size w2 wx)
            case first =>
              cases t1 : [[83, 112], [90, 119], [66, 107], [67, 114], [76, 102]].contains nb with
              | true =>
                exact absurd (F1.out hE t1) (by decide)
              | false =>
                go_wp2_with fail
                refine (yamong_b nb [[83, 112], [90, 119], [66, 107], [67, 114], [76, 102]] 5 _ _ rfl rfl (by decide)).mono ?_
                rw [t1]
                rintro e wn ⟨rfl, hz⟩
                replace hbc := below_two hbc hz
                clear hz
                go_wp2_with fail
                go_meet
                exact ⟨rfl, hbc⟩
            case rest =>
              clear hbc
              obtain ⟨rfl, hbc⟩ := hcut
              go_upto_region 21 with fail
              go_cut [86] (fun vt wx => vt = .bool false ∧ Below w2.heap.size w2 wx)
              case first =>
                cases t1 : [[87, 106], [67, 108], [67, 112], [69, 120], [73, 115], [83, 121]].contains nb with
                | true =>
                  exact absurd (F2.out hE t1 hZ2) (by decide)
                | false =>
                  go_wp2_with fail
                  refine (yamong_b nb [[87, 106], [67, 108], [67, 112], [69, 120], [73, 115], [83, 121]] 6 _ _ rfl rfl (by decide)).mono ?_
                  rw [t1]
                  rintro e wn ⟨rfl, hz⟩
                  replace hbc := below_two hbc hz
                  clear hz
                  go_wp2_with fail
                  go_meet
                  exact ⟨rfl, hbc⟩
              case rest =>
                clear hbc
                obtain ⟨rfl, hbc⟩ := hcut
                go_upto_region 25 with fail
                go_cut [107] (fun vt wx => vt = .bool false ∧ Below w2.heap.size w2 wx)
                case first =>
                  cases t1 : [[79, 116, 104, 101, 114], [78, 117], [71, 108], [87, 106]].contains nb with
                  | true =>
                    exact absurd (F4.out hg t1) (by decide)
                  | false =>
                    go_wp2_with fail
                    refine (yamong_b nb [[79, 116, 104, 101, 114], [78, 117], [71, 108], [87, 106]] 4 _ _ rfl rfl (by decide)).mono ?_
                    rw [t1]
                    rintro e wn ⟨rfl, hz⟩
                    replace hbc := below_two hbc hz
                    clear hz
                    go_wp2_with fail
                    go_meet
                    exact ⟨rfl, hbc⟩
                case rest =>
                  clear hbc
                  obtain ⟨rfl, hbc⟩ := hcut
                  go_wp2
                  go_roundw
                  case rel => exact ⟨i + 1, false, rfl, by go_num, by omega, by omega, HZ2, hbc⟩
                  case measure => simp [intOf]; omega
          · exfalso
            have := HEnd.out
            rw [hE, hk] at this
            exact absurd this (by decide)
        · skip
          have s5 : ((bytesOf na).toList == [90, 119]) = false := by rw [HSA.out 5 [90, 119] rfl, hg]; rfl
          have s4 : ((bytesOf na).toList == [83, 112]) = false := by rw [HSA.out 4 [83, 112] rfl, hg]; rfl
          have s1 : ((bytesOf na).toList == [66, 107]) = false := by rw [HSA.out 1 [66, 107] rfl, hg]; rfl
          have s3 : ((bytesOf na).toList == [76, 102]) = false := by rw [HSA.out 3 [76, 102] rfl, hg]; rfl
          have s2 : ((bytesOf na).toList == [67, 114]) = false := by rw [HSA.out 2 [67, 114] rfl, hg]; rfl
          have s7 : ((bytesOf na).toList == [71, 108]) = false := by rw [HSA.out 7 [71, 108] rfl, hg]; rfl
          have s6 : ((bytesOf na).toList == [87, 106]) = false := by rw [HSA.out 6 [87, 106] rfl, hg]; rfl
          have s0 : ((bytesOf na).toList == [79, 116, 104, 101, 114]) = false := by rw [HSA.out 0 [79, 116, 104, 101, 114] rfl, hg]; rfl
          have s20 : ((bytesOf na).toList == [78, 117]) = true := by rw [HSA.out 20 [78, 117] rfl, hg]; rfl
          have hE : endsL ((gL (r1 : Int) : Nat) : Int) ((gL (r2 : Int) : Nat) : Int) = false := by rw [hg]; rfl
          rcases Hk3.out with hk | hk | hk
          · subst hk
            have hZ2 : lZw C (j + 1) = false := by rw [HZs.out, if_neg (by omega), if_pos (by omega)]
            have HZ2 := Lib.hid (show lZw C (i + 1 - 1) = false by rw [HJ.out]; exact hZ2)
            go_wp2_with fail
            refine (HKd.out _ hbc).mono ?_
            rintro e wn ⟨rfl, hz⟩
            replace hbc := below_two hbc hz
            clear hz
            go_upto_region 19 with fail
            go_cut [75] (fun vt wx => vt = .bool false ∧ Below w2.heap.size w2 wx)
            case first =>
              cases t1 : [[83, 112], [90, 119], [66, 107], [67, 114], [76, 102]].contains nb with
              | true =>
                go_wp2_with fail
                refine (yamong_b nb [[83, 112], [90, 119], [66, 107], [67, 114], [76, 102]] 5 _ _ rfl rfl (by decide)).mono ?_
                rw [t1]
                rintro e wn ⟨rfl, hz⟩
                replace hbc := below_two hbc hz
                clear hz
                go_wp2_with fail
                go_meet
                exact ⟨rfl, hbc⟩
              | false =>
                go_wp2_with fail
                refine (yamong_b nb [[83, 112], [90, 119], [66, 107], [67, 114], [76, 102]] 5 _ _ rfl rfl (by decide)).mono ?_
                rw [t1]
                rintro e wn ⟨rfl, hz⟩
                replace hbc := below_two hbc hz
                clear hz
                go_wp2_with fail
                go_meet
                exact ⟨rfl, hbc⟩
            case rest =>
              clear hbc
              obtain ⟨rfl, hbc⟩ := hcut
              go_upto_region 21 with fail
              go_cut [86] (fun vt wx => vt = .bool false ∧ Below w2.heap.size w2 wx)
              case first =>
                cases t1 : [[87, 106], [67, 108], [67, 112], [69, 120], [73, 115], [83, 121]].contains nb with
                | true =>
                  go_wp2_with fail
                  refine (yamong_b nb [[87, 106], [67, 108], [67, 112], [69, 120], [73, 115], [83, 121]] 6 _ _ rfl rfl (by decide)).mono ?_
                  rw [t1]
                  rintro e wn ⟨rfl, hz⟩
                  replace hbc := below_two hbc hz
                  clear hz
                  go_wp2_with fail
                  go_meet
                  exact ⟨rfl, hbc⟩
                | false =>
                  go_wp2_with fail
                  refine (yamong_b nb [[87, 106], [67, 108], [67, 112], [69, 120], [73, 115], [83, 121]] 6 _ _ rfl rfl (by decide)).mono ?_
                  rw [t1]
                  rintro e wn ⟨rfl, hz⟩
                  replace hbc := below_two hbc hz
                  clear hz
                  go_wp2_with fail
                  go_meet
                  exact ⟨rfl, hbc⟩
              case rest =>
                clear hbc
                obtain ⟨rfl, hbc⟩ := hcut
                go_upto_region 27 with fail
                go_cut [118] (fun vt wx => vt = .bool false ∧ Below w2.heap.size w2 wx)
                case first =>
                  cases t1 : [[79, 116, 104, 101, 114], [78, 117]].contains nb with
                  | true =>
                    go_wp2_with fail
                    refine (yamong_b nb [[79, 116, 104, 101, 114], [78, 117]] 2 _ _ rfl rfl (by decide)).mono ?_
                    rw [t1]
                    rintro e wn ⟨rfl, hz⟩
                    replace hbc := below_two hbc hz
                    clear hz
                    go_wp2_with fail
                    go_meet
                    exact ⟨rfl, hbc⟩
                  | false =>
                    go_wp2_with fail
                    refine (yamong_b nb [[79, 116, 104, 101, 114], [78, 117]] 2 _ _ rfl rfl (by decide)).mono ?_
                    rw [t1]
                    rintro e wn ⟨rfl, hz⟩
                    replace hbc := below_two hbc hz
                    clear hz
                    go_wp2_with fail
                    go_meet
                    exact ⟨rfl, hbc⟩
                case rest =>
                  clear hbc
                  obtain ⟨rfl, hbc⟩ := hcut
                  go_wp2
                  go_roundw
                  case rel => exact ⟨i + 1, false, rfl, by go_num, by omega, by omega, HZ2, hbc⟩
                  case measure => simp [intOf]; omega
          · subst hk
            have hZ2 : lZw C (j + 1) = false := by rw [HZs.out, if_neg (by omega), if_pos (by omega)]
            have HZ2 := Lib.hid (show lZw C (i + 1 - 1) = false by rw [HJ.out]; exact hZ2)
            go_wp2_with fail
            refine (HKd.out _ hbc).mono ?_
            rintro e wn ⟨rfl, hz⟩
            replace hbc := below_two hbc hz
            clear hz
            go_upto_region 19 with fail
            go_cut [75] (fun vt wx => vt = .bool false ∧ Below w2.heap.size w2 wx)
            case first =>
              cases t1 : [[83, 112], [90, 119], [66, 107], [67, 114], [76, 102]].contains nb with
              | true =>
                exact absurd (F1.out hE t1) (by decide)
              | false =>
                go_wp2_with fail
                refine (yamong_b nb [[83, 112], [90, 119], [66, 107], [67, 114], [76, 102]] 5 _ _ rfl rfl (by decide)).mono ?_
                rw [t1]
                rintro e wn ⟨rfl, hz⟩
                replace hbc := below_two hbc hz
                clear hz
                go_wp2_with fail
                go_meet
                exact ⟨rfl, hbc⟩
            case rest =>
              clear hbc
              obtain ⟨rfl, hbc⟩ := hcut
              go_upto_region 21 with fail
              go_cut [86] (fun vt wx => vt = .bool false ∧ Below w2.heap.size w2 wx)
              case first =>
                cases t1 : [[87, 106], [67, 108], [67, 112], [69, 120], [73, 115], [83, 121]].contains nb with
                | true =>
                  exact absurd (F2.out hE t1 hZ2) (by decide)
                | false =>
                  go_wp2_with fail
                  refine (yamong_b nb [[87, 106], [67, 108], [67, 112], [69, 120], [73, 115], [83, 121]] 6 _ _ rfl rfl (by decide)).mono ?_
                  rw [t1]
                  rintro e wn ⟨rfl, hz⟩
                  replace hbc := below_two hbc hz
                  clear hz
                  go_wp2_with fail
                  go_meet
                  exact ⟨rfl, hbc⟩
              case rest =>
                clear hbc
                obtain ⟨rfl, hbc⟩ := hcut
                go_upto_region 27 with fail
                go_cut [118] (fun vt wx => vt = .bool false ∧ Below w2.heap.size w2 wx)
                case first =>
                  cases t1 : [[79, 116, 104, 101, 114], [78, 117]].contains nb with
                  | true =>
                    exact absurd (F5.out hg t1) (by decide)
                  | false =>
                    go_wp2_with fail
                    refine (yamong_b nb [[79, 116, 104, 101, 114], [78, 117]] 2 _ _ rfl rfl (by decide)).mono ?_
                    rw [t1]
                    rintro e wn ⟨rfl, hz⟩
                    replace hbc := below_two hbc hz
                    clear hz
                    go_wp2_with fail
                    go_meet
                    exact ⟨rfl, hbc⟩
                case rest =>
                  clear hbc
                  obtain ⟨rfl, hbc⟩ := hcut
                  go_wp2
                  go_roundw
                  case rel => exact ⟨i + 1, false, rfl, by go_num, by omega, by omega, HZ2, hbc⟩
                  case measure => simp [intOf]; omega
          · exfalso
            have := HEnd.out
            rw [hE, hk] at this
            exact absurd this (by decide)
        · skip
          have s5 : ((bytesOf na).toList == [90, 119]) = false := by rw [HSA.out 5 [90, 119] rfl]; exact beq_eq_false_iff_ne.2 (by omega)
          have s4 : ((bytesOf na).toList == [83, 112]) = false := by rw [HSA.out 4 [83, 112] rfl]; exact beq_eq_false_iff_ne.2 (by omega)
          have s1 : ((bytesOf na).toList == [66, 107]) = false := by rw [HSA.out 1 [66, 107] rfl]; exact beq_eq_false_iff_ne.2 (by omega)
          have s3 : ((bytesOf na).toList == [76, 102]) = false := by rw [HSA.out 3 [76, 102] rfl]; exact beq_eq_false_iff_ne.2 (by omega)
          have s2 : ((bytesOf na).toList == [67, 114]) = false := by rw [HSA.out 2 [67, 114] rfl]; exact beq_eq_false_iff_ne.2 (by omega)
          have s7 : ((bytesOf na).toList == [71, 108]) = false := by rw [HSA.out 7 [71, 108] rfl]; exact beq_eq_false_iff_ne.2 (by omega)
          have s6 : ((bytesOf na).toList == [87, 106]) = false := by rw [HSA.out 6 [87, 106] rfl]; exact beq_eq_false_iff_ne.2 (by omega)
          have s0 : ((bytesOf na).toList == [79, 116, 104, 101, 114]) = false := by rw [HSA.out 0 [79, 116, 104, 101, 114] rfl]; exact beq_eq_false_iff_ne.2 (by omega)
          have s20 : ((bytesOf na).toList == [78, 117]) = false := by rw [HSA.out 20 [78, 117] rfl]; exact beq_eq_false_iff_ne.2 (by omega)
          have hE : endsL ((gL (r1 : Int) : Nat) : Int) ((gL (r2 : Int) : Nat) : Int) = false := by unfold endsL; rw [beq_eq_false_iff_ne.2 (show ((gL (r1 : Int) : Nat) : Int) ≠ 1 by omega), beq_eq_false_iff_ne.2 (show ((gL (r1 : Int) : Nat) : Int) ≠ 3 by omega), beq_eq_false_iff_ne.2 (show ((gL (r1 : Int) : Nat) : Int) ≠ 2 by omega)]; rfl
          rcases Hk3.out with hk | hk | hk
          · subst hk
            have hZ2 : lZw C (j + 1) = false := by rw [HZs.out, if_neg (by omega), if_pos (by omega)]
            have HZ2 := Lib.hid (show lZw C (i + 1 - 1) = false by rw [HJ.out]; exact hZ2)
            go_wp2_with fail
            refine (HKd.out _ hbc).mono ?_
            rintro e wn ⟨rfl, hz⟩
            replace hbc := below_two hbc hz
            clear hz
            go_upto_region 19 with fail
            go_cut [75] (fun vt wx => vt = .bool false ∧ Below w2.heap.size w2 wx)
            case first =>
              cases t1 : [[83, 112], [90, 119], [66, 107], [67, 114], [76, 102]].contains nb with
              | true =>
                go_wp2_with fail
                refine (yamong_b nb [[83, 112], [90, 119], [66, 107], [67, 114], [76, 102]] 5 _ _ rfl rfl (by decide)).mono ?_
                rw [t1]
                rintro e wn ⟨rfl, hz⟩
                replace hbc := below_two hbc hz
                clear hz
                go_wp2_with fail
                go_meet
                exact ⟨rfl, hbc⟩
              | false =>
                go_wp2_with fail
                refine (yamong_b nb [[83, 112], [90, 119], [66, 107], [67, 114], [76, 102]] 5 _ _ rfl rfl (by decide)).mono ?_
                rw [t1]
                rintro e wn ⟨rfl, hz⟩
                replace hbc := below_two hbc hz
                clear hz
                go_wp2_with fail
                go_meet
                exact ⟨rfl, hbc⟩
            case rest =>
              clear hbc
              obtain ⟨rfl, hbc⟩ := hcut
              go_upto_region 21 with fail
              go_cut [86] (fun vt wx => vt = .bool false ∧ Below w2.heap.size w2 wx)
              case first =>
                cases t1 : [[87, 106], [67, 108], [67, 112], [69, 120], [73, 115], [83, 121]].contains nb with
                | true =>
                  go_wp2_with fail
                  refine (yamong_b nb [[87, 106], [67, 108], [67, 112], [69, 120], [73, 115], [83, 121]] 6 _ _ rfl rfl (by decide)).mono ?_
                  rw [t1]
                  rintro e wn ⟨rfl, hz⟩
                  replace hbc := below_two hbc hz
                  clear hz
                  go_wp2_with fail
                  go_meet
                  exact ⟨rfl, hbc⟩
                | false =>
                  go_wp2_with fail
                  refine (yamong_b nb [[87, 106], [67, 108], [67, 112], [69, 120], [73, 115], [83, 121]] 6 _ _ rfl rfl (by decide)).mono ?_
                  rw [t1]
                  rintro e wn ⟨rfl, hz⟩
                  replace hbc := below_two hbc hz
                  clear hz
                  go_wp2_with fail
                  go_meet
                  exact ⟨rfl, hbc⟩
              case rest =>
                clear hbc
                obtain ⟨rfl, hbc⟩ := hcut
                go_wp2
                go_roundw
                case rel => exact ⟨i + 1, false, rfl, by go_num, by omega, by omega, HZ2, hbc⟩
                case measure => simp [intOf]; omega
          · subst hk
            have hZ2 : lZw C (j + 1) = false := by rw [HZs.out, if_neg (by omega), if_pos (by omega)]
            have HZ2 := Lib.hid (show lZw C (i + 1 - 1) = false by rw [HJ.out]; exact hZ2)
            go_wp2_with fail
            refine (HKd.out _ hbc).mono ?_
            rintro e wn ⟨rfl, hz⟩
            replace hbc := below_two hbc hz
            clear hz
            go_upto_region 19 with fail
            go_cut [75] (fun vt wx => vt = .bool false ∧ Below w2.heap.size w2 wx)
            case first =>
              cases t1 : [[83, 112], [90, 119], [66, 107], [67, 114], [76, 102]].contains nb with
              | true =>
                exact absurd (F1.out hE t1) (by decide)
              | false =>
                go_wp2_with fail
                refine (yamong_b nb [[83, 112], [90, 119], [66, 107], [67, 114], [76, 102]] 5 _ _ rfl rfl (by decide)).mono ?_
                rw [t1]
                rintro e wn ⟨rfl, hz⟩
                replace hbc := below_two hbc hz
                clear hz
                go_wp2_with fail
                go_meet
                exact ⟨rfl, hbc⟩
            case rest =>
              clear hbc
              obtain ⟨rfl, hbc⟩ := hcut
              go_upto_region 21 with fail
              go_cut [86] (fun vt wx => vt = .bool false ∧ Below w2.heap.size w2 wx)
              case first =>
                cases t1 : [[87, 106], [67, 108], [67, 112], [69, 120], [73, 115], [83, 121]].contains nb with
                | true =>
                  exact absurd (F2.out hE t1 hZ2) (by decide)
                | false =>
                  go_wp2_with fail
                  refine (yamong_b nb [[87, 106], [67, 108], [67, 112], [69, 120], [73, 115], [83, 121]] 6 _ _ rfl rfl (by decide)).mono ?_
                  rw [t1]
                  rintro e wn ⟨rfl, hz⟩
                  replace hbc := below_two hbc hz
                  clear hz
                  go_wp2_with fail
                  go_meet
                  exact ⟨rfl, hbc⟩
              case rest =>
                clear hbc
                obtain ⟨rfl, hbc⟩ := hcut
                go_wp2
                go_roundw
                case rel => exact ⟨i + 1, false, rfl, by go_num, by omega, by omega, HZ2, hbc⟩
                case measure => simp [intOf]; omega
          · exfalso
            have := HEnd.out
            rw [hE, hk] at this
            exact absurd this (by decide)
    · have HL := Lib.hid (HLv.out wr (hE2.out.below hb))
      go_wp2_with fail
      refine HL.out.mono ?_
      rintro e w6 ⟨rfl, hb6⟩
      go_wp2
      go_ret
      exact ⟨rfl, below_two (below_step hb3 hb hsz3) hb6⟩
end Go.Proofs.YtinfnfgflcjfmaaGreatDoor

