/- -/
import Derived.Deep.CutRange
import Derived.Test.YtdnkignhenkamaaGreatDoorS5a
namespace Go.Proofs.YtdnkignhenkamaaGreatDoor
open Go.RowKit
abbrev Ruv := Bool × Bool × Bool × Pv × Pv
def valRu (v : Ruv) : Value := .agg #[.bool v.1, .bool v.2.1, .bool v.2.2.1, .int .i64 (v.2.2.2.1.1 : Int), .slice v.2.2.2.1.2.1.1 v.2.2.2.1.2.1.2.1 v.2.2.2.1.2.1.2.2, .slice v.2.2.2.1.2.2.1 v.2.2.2.1.2.2.2.1 v.2.2.2.1.2.2.2.2, .int .i64 (v.2.2.2.2.1 : Int), .slice v.2.2.2.2.2.1.1 v.2.2.2.2.2.1.2.1 v.2.2.2.2.2.1.2.2, .slice v.2.2.2.2.2.2.1 v.2.2.2.2.2.2.2.1 v.2.2.2.2.2.2.2.2]
def encRul (v : Ruv) : List Value := [.bool v.1, .bool v.2.1, .bool v.2.2.1] ++ encPt v.2.2.2.1 ++ encPt v.2.2.2.2
structure RuX (w : World) (X : Nat → Prop) (r : RuleP) (v : Ruv) : Prop where
  cut : v.1 = r.cut
  start : v.2.1 = r.start
  stop : v.2.2.1 = r.stop
  left : PatX w X r.left v.2.2.2.1
  right : PatX w X r.right v.2.2.2.2
theorem RuX.keep {X X' : Nat → Prop} {w w' : World} {r : RuleP} {v : Ruv} (h : RuX w X r v) (k : KeepX X X' w w') : RuX w' X' r v := ⟨h.cut, h.start, h.stop, h.left.keep k, h.right.keep k⟩
theorem RuX.below {X : Nat → Prop} {w w' : World} {r : RuleP} {v : Ruv} (h : RuX w X r v) (hb : Below w.heap.size w w') : RuX w' X r v := h.keep (KeepX.below hb)
structure RuleOk (r : RuleP) : Prop where
  left : goodP 64 r.left = true
  right : goodP 64 r.right = true
  sl : sizeP r.left ≤ 2048
  sr : sizeP r.right ≤ 2048
theorem Rd.pre' {w : World} {s : Nat} {A : Option Addr} {cs ds : List (List Value)} (h : Rd w s A (cs ++ ds)) : Rd w s A cs := fun hn => by
  obtain ⟨b, off, e, hc⟩ := h (by intro e; rw [List.append_eq_nil_iff] at e; exact hn e.1)
  exact ⟨b, off, e, fun k j x u hk hj => hc k j x u (by rw [List.getElem?_append_left (List.getElem?_eq_some_iff.1 hk).1]; exact hk) hj⟩
theorem Rd.takeN {w : World} {A : Option Addr} {l : List Nat} (h : Rd w 1 A (l.map encN)) (k : Nat) : Rd w 1 A ((l.take k).map encN) := by
  have e : l.map encN = (l.take k).map encN ++ (l.drop k).map encN := by rw [← List.map_append, List.take_append_drop]
  rw [e] at h
  exact Rd.pre' h
theorem Rd.dropN {w : World} {b off : Nat} {l : List Nat} (h : Rd w 1 (some ⟨b, off, none⟩) (l.map encN)) (k : Nat) : Rd w 1 (some ⟨b, off + k, none⟩) ((l.drop k).map encN) := fun hn => by
  obtain ⟨b', off', e, hc⟩ := h (by intro e; rw [List.map_eq_nil_iff] at e; subst e; simp at hn)
  injection e with e
  injection e with e1 e2 _
  subst e1
  subst e2
  refine ⟨b, off + k, rfl, fun i j x u hi hj => ?_⟩
  have := hc (k + i) j x u (by rw [List.getElem?_map, List.getElem?_drop] at hi; rw [List.getElem?_map]; exact hi) hj
  rw [show off + k + i * 1 + j = off + (k + i) * 1 + j by omega]
  exact this
theorem own_empty {w : World} {base : Nat} {A : Option Addr} {k c : Nat} {l : List Nat} (h : Own w base 3 1 A k c (l.map encN)) : l.length = k := by have := h.len; rwa [List.length_map] at this
theorem empty_iff {l : List Nat} {k : Nat} (h : l.length = k) : ((k : Int) == 0) = l.isEmpty := by
  cases l with
  | nil => simp at h; subst h; rfl
  | cons a r => simp at h; rw [← h]; rw [Bool.eq_iff_iff]; simp; omega
set_option maxRecDepth 100000 in
set_option maxHeartbeats 4000000 in
theorem oApplies_any (cl : List Nat) (b0 off0 n c0 a : Nat) (hl : cl.length = n) (hn : n ≤ 100000) (hc0 : n ≤ c0) (h0 : 0 < a) (ha : a < n) (X : Nat → Prop) (r : RuleP) (v : Ruv) (w : World) (hr : RuX w X r v) (hok : RuleOk r) (hC : Rd w 1 (some ⟨b0, off0, none⟩) (cl.map encN)) :
    Calls Tryz.prog 116 #[valRu v, .slice (some ⟨b0, off0, none⟩) n c0, .int .i64 (a : Nat)] w fun e w' => e = .returned (.bool (appliesB r cl a)) ∧ Below w.heap.size w w' := by
  obtain ⟨v1, v2, v3, vl, vr⟩ := v
  have HR := Lib.hid hr
  have HGl := Lib.hid (fun W (h : PatX W X r.left vl) => jGood_any X r.left vl W h (goodP_mono (by omega) hok.left) hok.sl)
  have HGr := Lib.hid (fun W (h : PatX W X r.right vr) => jGood_any X r.right vr W h (goodP_mono (by omega) hok.right) hok.sr)
  have HS := Lib.hid (fun W c (h : PatX W X r.left vl) (hc : Rd W 1 (some ⟨b0, off0, none⟩) ((cl.take a).map encN)) => jStarts_any (cl.take a) (some ⟨b0, off0, none⟩) a c (by rw [List.length_take]; omega) (by omega) X r.left vl W h hok.left hok.sl hc)
  have HE := Lib.hid (fun W m c (hm : m = n - a) (h : PatX W X r.right vr) (hc : Rd W 1 (some ⟨b0, off0 + a, none⟩) ((cl.drop a).map encN)) => jEnds_any (cl.drop a) (some ⟨b0, off0 + a, none⟩) m c (by rw [List.length_drop]; omega) (by omega) X r.right vr W h hok.right hok.sr hc)
  have HV : Hid (appliesB r cl a = (!(startsB r.left (cl.take a)).isEmpty && !(endsB r.right (cl.drop a)).isEmpty && (!v2 || (startsB r.left (cl.take a)).contains 0) && (!v3 || (endsB r.right (cl.drop a)).contains (n - a)))) := Lib.hid (by
    have h2 := hr.start
    have h3 := hr.stop
    simp only at h2 h3
    unfold appliesB; rw [hl, h2, h3])
  have HSz : Hid ((startsB r.left (cl.take a)).length ≤ n + 1) := Lib.hid (by
    unfold startsB
    refine Nat.le_trans (List.length_filter_le _ _) ?_
    rw [List.length_range, List.length_take]; omega)
  have HEz : Hid ((endsB r.right (cl.drop a)).length ≤ n + 1) := Lib.hid (by
    unfold endsB
    refine Nat.le_trans (List.length_filter_le _ _) ?_
    rw [List.length_range, List.length_drop]; omega)
  generalize startsB r.left (cl.take a) = SL at HS HV HSz
  generalize endsB r.right (cl.drop a) = EL at HE HV HEz
  clear hr hok
  unfold valRu
  unfold valPt at HGl HGr HS HE
  simp only
  have hac : (a : Int) ≤ (c0 : Int) := by omega
  have hac' : a ≤ c0 := by omega
  have haz : (0 : Int) ≤ (a : Int) := by omega
  have han : a ≤ n := by omega
  have hca : ¬ c0 = a := by omega
  have t1 : decide (n < a) = false := decide_eq_false (by omega)
  have t2 : decide ((a : Int) < 0) = false := decide_eq_false (by omega)
  go_enter Tryz.func116, Tryz.ntmps116
  go_wp2_with fail
  have Hz : Below w.heap.size w (w.alloc (.cells #[.bool v1, .bool v2, .bool v3, .int .i64 (vl.1 : Int), .slice vl.2.1.1 vl.2.1.2.1 vl.2.1.2.2, .slice vl.2.2.1 vl.2.2.2.1 vl.2.2.2.2, .int .i64 (vr.1 : Int), .slice vr.2.1.1 vr.2.1.2.1 vr.2.1.2.2, .slice vr.2.2.1 vr.2.2.2.1 vr.2.2.2.2] 128)) := (Below.refl _ _).alloc (Nat.le_refl _) _
  have hb0 : Blk (w.alloc (.cells #[.bool v1, .bool v2, .bool v3, .int .i64 (vl.1 : Int), .slice vl.2.1.1 vl.2.1.2.1 vl.2.1.2.2, .slice vl.2.2.1 vl.2.2.2.1 vl.2.2.2.2, .int .i64 (vr.1 : Int), .slice vr.2.1.1 vr.2.1.2.1 vr.2.1.2.2, .slice vr.2.2.1 vr.2.2.2.1 vr.2.2.2.2] 128)) w.heap.size 128 _ := Blk.new _ _ _
  generalize (w.alloc (.cells #[.bool v1, .bool v2, .bool v3, .int .i64 (vl.1 : Int), .slice vl.2.1.1 vl.2.1.2.1 vl.2.1.2.2, .slice vl.2.2.1 vl.2.2.2.1 vl.2.2.2.2, .int .i64 (vr.1 : Int), .slice vr.2.1.1 vr.2.1.2.1 vr.2.1.2.2, .slice vr.2.2.1 vr.2.2.2.1 vr.2.2.2.2] 128)) = w1 at Hz hb0 ⊢
  have d3 := hb0.cell 3
  have d4 := hb0.cell 4
  have d5 := hb0.cell 5
  have d6 := hb0.cell 6
  have d7 := hb0.cell 7
  have d8 := hb0.cell 8
  have d1 := hb0.cell 1
  have d2 := hb0.cell 2
  simp only [List.getElem?_toArray, List.getElem?_cons_succ, List.getElem?_cons_zero] at d1 d2 d3 d4 d5 d6 d7 d8
  have HD := Lib.hid (fun W (h : Below w1.heap.size w1 W) => And.intro (cell_keep d1 h) (And.intro (cell_keep d2 h) (And.intro (cell_keep d3 h) (And.intro (cell_keep d4 h) (And.intro (cell_keep d5 h) (And.intro (cell_keep d6 h) (And.intro (cell_keep d7 h) (cell_keep d8 h))))))))
  have HX := Lib.hid (fun W (h : Below w1.heap.size w1 W) => (HR.out.below Hz).below h)
  have HCc := Lib.hid (fun W (h : Below w1.heap.size w1 W) => (hC.below Hz).below h)
  clear hb0 HR hC
  refine (HGl.out w1 (HX.out w1 (Below.refl _ _)).left).mono ?_
  rintro e w2 ⟨rfl, hb2⟩
  obtain ⟨d1, d2, d3, d4, d5, d6, d7, d8⟩ := HD.out w2 hb2
  go_wp2_with fail
  refine (HGr.out w2 (HX.out w2 hb2).right).mono ?_
  rintro e w3 ⟨rfl, hb3⟩
  replace hb3 := below_two hb2 hb3
  clear HGl HGr d1 d2 d3 d4 d5 d6 d7 d8
  obtain ⟨d1, d2, d3, d4, d5, d6, d7, d8⟩ := HD.out w3 hb3
  have hb3d := hb3.drew
  have Hbz := Lib.hid (below_two Hz hb3)
  go_upto_region 3 with fail
  go_cut [7] from 29 to 34 (fun v wx => ∃ (A : Option Addr) (k c : Nat), v = .slice A k c ∧ SL.length = k ∧ Rd wx 1 A (SL.map encN) ∧ Below w1.heap.size w1 wx)
  case first =>
    refine wp_region_noPanic ?_
    go_region_law (go_simp; go_at_call 148; refine (HS.out w3.drew _ (HX.out w3.drew hb3d).left ((HCc.out w3.drew hb3d).takeN a)).mono ?_; rintro e w4 ⟨A4, k4, c4, rfl, ho4, hb4⟩)
    all_goals
      refine NoPanic.normal ?_
      have hb4' := below_step hb3d hb4 hb3d.size
      have hk4 := own_empty ho4
      go_wp2_with fail
      go_meet
      exact ⟨A4, k4, c4, rfl, hk4, ho4.rd (by omega), hb4'⟩
  case rest =>
    clear d1 d2 d3 d4 d5 d6 d7 d8 hb3d HS
    obtain ⟨A4, k4, c4, rfl, hk4, hr4, hb4⟩ := hcut
    obtain ⟨d1, d2, d3, d4, d5, d6, d7, d8⟩ := HD.out wc hb4
    have hb4d := hb4.drew
    have hnac : (n : Int) - (a : Int) = ((n - a : Nat) : Int) := by omega
    go_upto_region 4 with fail
    go_cut [8] from 35 to 40 (fun v wx => ∃ (A : Option Addr) (k c : Nat), v = .slice A k c ∧ EL.length = k ∧ Rd wx 1 A (EL.map encN) ∧ Rd wx 1 A4 (SL.map encN) ∧ Below w1.heap.size w1 wx)
    case first =>
      refine wp_region_noPanic ?_
      go_region_law (go_simp; go_at_call 149; refine (HE.out wc.drew _ _ rfl (HX.out wc.drew hb4d).right ((HCc.out wc.drew hb4d).dropN a)).mono ?_; rintro e w5 ⟨A5, k5, c5, rfl, ho5, hb5⟩)
      all_goals
        refine NoPanic.normal ?_
        have hb5' := below_step hb4d hb5 hb4d.size
        have hk5 := own_empty ho5
        have hr4' := (hr4.drew).below hb5
        go_wp2_with fail
        go_meet
        exact ⟨A5, k5, c5, rfl, hk5, ho5.rd (by omega), hr4', hb5'⟩
    case rest =>
      clear d1 d2 d3 d4 d5 d6 d7 d8 hb4d HE hr4 hb4
      obtain ⟨A5, k5, c5, rfl, hk5, hr5, hr4, hb5⟩ := hcut
      obtain ⟨d1, d2, d3, d4, d5, d6, d7, d8⟩ := HD.out wc hb5
      have hbw := below_two Hz hb5
      have hk4z : k4 ≤ 4000000 := by have := HSz.out; omega
      have hk5z : k5 ≤ 4000000 := by have := HEz.out; omega
      have u1 := empty_iff hk4
      have u2 := empty_iff hk5
      have HI1 := Lib.hid (oin_any A4 k4 c4 SL 0 wc hr4 hk4 hk4z)
      have HI2 := Lib.hid (oin_any A5 k5 c5 EL (n - a) wc hr5 hk5 hk5z)
      generalize SL.isEmpty = s1 at u1 HV
      generalize EL.isEmpty = s2 at u2 HV
      generalize SL.contains 0 = s3 at HI1 HV
      generalize EL.contains (n - a) = s4 at HI2 HV
      rw [← hnac] at HI2
      clear hr4 hr5 hk4 hk5 hk4z hk5z HSz HEz d3 d4 d5 d6 d7 d8 HD HX HCc hb5 hnac
      cases s1 with
      | true =>
        go_wp2
        go_ret
        exact ⟨by rw [HV.out]; rfl, hbw⟩
      | false =>
        cases s2 with
        | true =>
          go_wp2
          go_ret
          exact ⟨by rw [HV.out]; rfl, hbw⟩
        | false =>
          cases v2 with
          | true =>
            cases s3 with
            | false =>
              go_wp2_with fail
              refine HI1.out.mono ?_
              rintro e w7 ⟨rfl, rfl⟩
              go_wp2
              go_ret
              exact ⟨by rw [HV.out]; rfl, hbw⟩
            | true =>
              cases v3 with
              | false =>
                go_wp2_with fail
                refine HI1.out.mono ?_
                rintro e w7 ⟨rfl, rfl⟩
                go_wp2
                go_ret
                exact ⟨by rw [HV.out]; rfl, hbw⟩
              | true =>
                go_wp2_with fail
                refine HI1.out.mono ?_
                rintro e w7 ⟨rfl, rfl⟩
                go_wp2_with fail
                refine HI2.out.mono ?_
                rintro e w7 ⟨rfl, rfl⟩
                go_wp2
                go_ret
                exact ⟨by rw [HV.out]; cases s4 <;> rfl, hbw⟩
          | false =>
            cases v3 with
            | false =>
              go_wp2
              go_ret
              exact ⟨by rw [HV.out]; cases s3 <;> rfl, hbw⟩
            | true =>
              go_wp2_with fail
              refine HI2.out.mono ?_
              rintro e w7 ⟨rfl, rfl⟩
              go_wp2
              go_ret
              exact ⟨by rw [HV.out]; cases s3 <;> cases s4 <;> rfl, hbw⟩
end Go.Proofs.YtdnkignhenkamaaGreatDoor

