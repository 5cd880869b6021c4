/-
  runes.Trim: without what is in a set, at both ends.
-/
import Derived.Test.YteelepiaegpkhaaDoorRunU
import Derived.RegionTactic
import Derived.BigRegion
import Derived.RegionCalls
import Derived.Deep.RegionHeld3
import Derived.Deep.DeepCutAuto
import Derived.RegionDies
namespace Go.Proofs.YteelepiaegpkhaaDoor
open Go.RowKit Go.Shelf
attribute [local go_sem] Oper.semAt_some

theorem runs_head (h : Int → Bool) (z : Nat) : ∀ (L : List (Nat × Nat × Nat)), (runsGo h z none L).head?.map (·.1) = (L.filter fun x => h x.1).head?.map (·.2.1) ∧ ∀ a, (runsGo h z (some a) L).head?.map (·.1) = some a
  | [] => ⟨rfl, fun _ => rfl⟩
  | x :: L => by
    obtain ⟨ih1, ih2⟩ := runs_head h z L
    cases hh : h x.1 with
    | true => exact ⟨by rw [runsGo, if_pos hh, ih2]; simp [hh], fun a => by rw [runsGo, if_pos hh, ih2]⟩
    | false => exact ⟨by rw [runsGo, if_neg (by rw [hh]; exact Bool.false_ne_true), ih1]; simp [hh], fun a => by rw [runsGo, if_neg (by rw [hh]; exact Bool.false_ne_true)]; rfl⟩
theorem getLast?_cons' {α : Type} (x : α) (l : List α) : (x :: l).getLast? = some (l.getLast?.getD x) := by
  cases l with
  | nil => rfl
  | cons y l => rw [List.getLast?_cons_cons, List.getLast?_eq_some_getLast (by simp)]; rfl
theorem runs_last (h : Int → Bool) (s : ByteArray) : ∀ (f p : Nat), s.size ≤ p + f → p ≤ s.size →
    (runsGo h s.size none (runesGo s f p)).getLast?.map (·.2) = ((runesGo s f p).filter fun x => h x.1).getLast?.map (·.2.2) ∧
    ∀ a, (runsGo h s.size (some a) (runesGo s f p)).getLast?.map (·.2) = some ((((runesGo s f p).filter fun x => h x.1).getLast?.map (·.2.2)).getD p)
  | 0, p, h1, h2 => by
    obtain rfl : p = s.size := by omega
    exact ⟨rfl, fun _ => rfl⟩
  | f + 1, p, h1, h2 => by
    by_cases hp : p < s.size
    · have hd := dec_bd s p hp
      obtain ⟨ih1, ih2⟩ := runs_last h s f (p + (Utf8.decode s p).2) (by omega) (by omega)
      rw [runesGo, if_pos hp]
      generalize Utf8.decode s p = d at *
      obtain ⟨R, W⟩ := d
      simp only at *
      generalize runesGo s f (p + W) = L at *
      cases hh : h (R : Int) with
      | true =>
        have e1 : ((R, p, p + W) :: L).filter (fun x => h x.1) = (R, p, p + W) :: L.filter fun x => h x.1 := by simp [hh]
        have key : ((((R, p, p + W) :: L).filter fun x => h x.1).getLast?.map (·.2.2)) = some (((L.filter fun x => h x.1).getLast?.map (·.2.2)).getD (p + W)) := by
          rw [e1, getLast?_cons']
          cases (L.filter fun x => h x.1).getLast? <;> rfl
        refine ⟨?_, fun a => ?_⟩
        · rw [runsGo, if_pos hh, ih2, key]
        · rw [runsGo, if_pos hh, ih2, key]; rfl
      | false =>
        have e1 : ((R, p, p + W) :: L).filter (fun x => h x.1) = L.filter fun x => h x.1 := by simp [hh]
        refine ⟨?_, fun a => ?_⟩
        · rw [runsGo, if_neg (by rw [hh]; exact Bool.false_ne_true), ih1, e1]
        · rw [runsGo, if_neg (by rw [hh]; exact Bool.false_ne_true), e1, ← ih1, getLast?_cons']
          cases (runsGo h s.size none L).getLast? <;> rfl
    · obtain rfl : p = s.size := by omega
      rw [runesGo_end (Nat.le_refl _)]
      exact ⟨rfl, fun _ => rfl⟩
def frstV {s : ByteArray} (pre : List (Span s)) : Nat := (pre.head?.map (·.1.1)).getD s.size
def lastV {s : ByteArray} (pre : List (Span s)) : Nat := (pre.getLast?.map (·.1.2)).getD s.size
theorem hasB_notR (l : List (Int × Int)) (r : Nat) (hr : r ≤ 1114111) : hasB (notR l) r = !hasB l r := by
  cases hh : hasB l r with
  | true => exact hasB_false (fun h => ((hasP_notR l r).1 h).2.2 ((hasB_iff l r).1 hh))
  | false => exact hasB_true ((hasP_notR l r).2 ⟨by omega, by omega, fun h => by rw [hasB_true h] at hh; cases hh⟩)
theorem filter_notR (s : ByteArray) (l : List (Int × Int)) : ((runesP s).filter fun x => hasB (notR l) x.1) = (runesP s).filter fun x => !hasB l x.1 :=
  List.filter_congr fun x hx => hasB_notR l x.1 (runesP_bd x hx).2.2.2
theorem trim_runs (s : ByteArray) (l : List (Int × Int)) (ys : List (Span s)) (h : ys.map (·.1) = runsP s (normR (notR l))) : frstV ys = (trimP s l).1 ∧ lastV ys = (trimP s l).2 := by
  rw [runsP_normR] at h
  have h1 := (runs_head (hasB (notR l)) s.size (runesP s)).1
  have h2 := (runs_last (hasB (notR l)) s s.size 0 (by omega) (by omega)).1
  change (runsP s (notR l)).head?.map _ = _ at h1
  change (runsP s (notR l)).getLast?.map _ = ((runesP s).filter _).getLast?.map _ at h2
  rw [← h, filter_notR] at h1 h2
  rw [List.head?_map, Option.map_map] at h1
  rw [List.getLast?_map, Option.map_map] at h2
  unfold frstV lastV trimP
  exact ⟨congrArg (·.getD s.size) h1, congrArg (·.getD s.size) h2⟩
theorem frst_snoc {s : ByteArray} (pre : List (Span s)) (x : Span s) : frstV (pre ++ [x]) = if pre = [] then x.1.1 else frstV pre := by
  cases pre with
  | nil => rfl
  | cons y r => rfl
theorem last_snoc {s : ByteArray} (pre : List (Span s)) (x : Span s) : lastV (pre ++ [x]) = x.1.2 := by unfold lastV; simp
theorem frst_lt {s : ByteArray} (pre : List (Span s)) (h : pre ≠ []) : frstV pre < s.size := by
  cases pre with
  | nil => exact absurd rfl h
  | cons y r => have := y.2; show y.1.1 < s.size; omega

set_option maxRecDepth 100000 in
set_option maxHeartbeats 2000000 in
theorem rTrim_any (s : ByteArray) (A : Option Addr) (n c : Nat) (l : List (Int × Int)) (w : World) (hA : Rd w 2 A (l.map encR)) (hl : l.length = n) (hn : n ≤ 4000000) (hs : s.size ≤ 1000000) :
    Calls Tryd.prog 27 #[.string s, .slice A n c] w fun e w' => e = .returned (.tuple #[.int .i64 (trimP s l).1, .int .i64 (trimP s l).2]) ∧ RowKit.Below w.heap.size w w' := by
  have Hl := Lib.hid hl
  clear hl
  refine (callsIn_wide (n := 3)).1 ?_
  refine callsIn_of_wp_marks Tryd.func27 rfl trivial ?_ rfl
  simp only [Tryd.ntmps27, List.size_toArray, List.length_cons, List.length_nil, Nat.reduceAdd, Nat.reduceSub, Array.replicate_succ, Array.replicate_zero, List.push_toArray, List.append_toArray, List.nil_append, List.cons_append]
  refine wpIn_wide.2 ?_
  go_upto_region 1 with fail
  go_cut [6, 7] from 10 to 27 (fun x y wx => ∃ gx gy, x = .pointer (some ⟨gx, 0, none⟩) ∧ y = .pointer (some ⟨gy, 0, none⟩) ∧ gx ≠ gy ∧ (w.heap.size < gx ∧ gx < w.heap.size + 3) ∧ (w.heap.size < gy ∧ gy < w.heap.size + 3) ∧
    Blk wx w.heap.size 9 #[.string s] ∧ Blk wx gx 3 #[.int .i64 s.size] ∧ Blk wx gy 3 #[.int .i64 s.size] ∧ wx.heap.size = w.heap.size + 3 ∧ RowKit.Below w.heap.size w wx)
  case first =>
    have hb3 : RowKit.Below w.heap.size w (((w.alloc (.cells #[.string s] 9)).alloc (.cells #[.int .i64 s.size] 3)).alloc (.cells #[.int .i64 s.size] 3)) := (((RowKit.Below.refl _ _).alloc (Nat.le_refl _) _).alloc (by simp) _).alloc (by simp; omega) _
    have k0 : Blk (((w.alloc (.cells #[.string s] 9)).alloc (.cells #[.int .i64 s.size] 3)).alloc (.cells #[.int .i64 s.size] 3)) w.heap.size 9 #[.string s] := ((Blk.new w 9 #[.string s]).alloc _).alloc _
    have k1 : Blk (((w.alloc (.cells #[.string s] 9)).alloc (.cells #[.int .i64 s.size] 3)).alloc (.cells #[.int .i64 s.size] 3)) (w.heap.size + 1) 3 #[.int .i64 s.size] := by
      have := (Blk.new (w.alloc (.cells #[.string s] 9)) 3 #[.int .i64 s.size]).alloc (.cells #[.int .i64 s.size] 3)
      simpa using this
    have k2 : Blk (((w.alloc (.cells #[.string s] 9)).alloc (.cells #[.int .i64 s.size] 3)).alloc (.cells #[.int .i64 s.size] 3)) (w.heap.size + 1 + 1) 3 #[.int .i64 s.size] := by
      have := Blk.new ((w.alloc (.cells #[.string s] 9)).alloc (.cells #[.int .i64 s.size] 3)) 3 #[.int .i64 s.size]
      simpa using this
    have Hk := Lib.hid (And.intro k0 (And.intro k1 (And.intro k2 hb3)))
    clear k0 k1 k2 hb3
    go_region
    · go_wp2_with fail
      go_meet
      exact ⟨_, _, rfl, rfl, by omega, by omega, by omega, Hk.out.1, Hk.out.2.1, Hk.out.2.2.1, by simp, below_drewN Hk.out.2.2.2 1⟩
    · go_wp2_with fail
      go_meet
      exact ⟨_, _, rfl, rfl, by omega, by omega, by omega, Hk.out.1, Hk.out.2.2.1, Hk.out.2.1, by simp, below_drewN Hk.out.2.2.2 1⟩
  case rest =>
    obtain ⟨gx, gy, rfl, rfl, hxy, hgx, hgy, B0, Bx, By, hsz, hb⟩ := hcut
    have hAc := hA.below hb
    have HNF := Lib.hid (notR_NF l)
    go_upto_region 2 with fail
    go_cut [17] from 14 to 27 (fun f wx => ∃ bs bset, f = .func (.func 60) #[] #[.pointer (some ⟨bs, 0, none⟩), .pointer (some ⟨bset, 0, none⟩)] ∧ RunsIt wx s (normR (notR l)) (w.heap.size + 3) bs bset ∧ RowKit.Below wc.heap.size wc wx)
    case first =>
      have hc0 : wc.cell? ⟨w.heap.size, 0, none⟩ = some (.string s) := B0.cell 0
      refine wp_region_noPanic ?_
      go_region_law (first
        | (go_simp; go_at_call 41; go_must (refine (rNot_any A n c l wc.drew hAc Hl.out hn).mono ?_); rintro e w1 ⟨A1, n1, c1, rfl, ho1, hb1⟩; have hn1 := own_nf_len ho1 HNF.out; have hc1 := cell_keep (w := wc.drew) hc0 hb1)
        | (go_simp; go_at_call 33; go_must (refine (rRuns_any s A1 n1 c1 (notR l) _ (ho1.rd (by omega)) (by simpa using ho1.len) (by omega)).mono ?_); rintro e w2 ⟨bs, bset, rfl, hit, hb2⟩))
      all_goals
        refine NoPanic.normal ?_
        have hw1 : w.heap.size + 3 ≤ w1.heap.size := by have := hb1.size; simp at this; omega
        go_wp2_with fail
        go_meet
        exact ⟨_, _, rfl, hit.more hw1, below_two (a := wc) (b := w1) ⟨hb1.os, hb1.tape, hb1.output, hb1.size, hb1.block⟩ hb2⟩
    case rest =>
      obtain ⟨wa, rfl⟩ : ∃ wa : World, wa = wc := ⟨_, rfl⟩
      obtain ⟨bs, bset, rfl, hit, hb1⟩ := hcut
      obtain ⟨w1, rfl⟩ : ∃ w1 : World, w1 = wa := ⟨_, rfl⟩
      have hbw1 := below_step hb hb1 hb.size
      have B01 := B0.below hb1
      have Bx1 := Bx.below hb1
      have By1 := By.below hb1
      have hz1 : w.heap.size + 3 ≤ w1.heap.size := by have := hb1.size; omega
      clear hAc B0 Bx By hb hb1 hsz
      go_wp2_with fail
      refine (wpIn_wide (n := 3)).1 ?_
      refine wpIn_rangeFunc_ownG rfl (by decide) (gf := 60) (lb := #[.pointer (some ⟨bs, 0, none⟩), .pointer (some ⟨bset, 0, none⟩)]) rfl trivial (enters_of Tryd.func60 (by kernel_rfl) rfl)
        (runs_stops 2 (by decide) w1 s (normR (notR l)) (w.heap.size + 3) bs bset hs hit) Kp.trans (Kp.put (Nat.le_refl _)) (RowKit.Below.refl _ _) (fun _ => rfl)
        (fun pre W => (Blk W gx 3 #[.int .i64 (frstV pre)] ∧ Blk W gy 3 #[.int .i64 (lastV pre)] ∧ Blk W w.heap.size 9 #[.string s]) ∧ RowKit.Below w.heap.size w W ∧ w1.heap.size ≤ W.heap.size)
        (fun _ _ _ => False)
        (OwnFrom.and (Go.Own.from (fun s A B row hs hg hr => ⟨hs.1.kept hg hr, hs.2.1.kept hg hr, hs.2.2.kept hg hr⟩) _) (OwnFrom.and (ownFrom_below (Nat.le_refl _) (by omega)) (fun _ _ _ _ hs hg _ => Nat.le_trans hs hg.size)))
        (fun _ _ _ _ _ hs _ _ => hs)
        ⟨⟨Bx1, By1, B01⟩, hbw1, Nat.le_refl _⟩
        (fun x => { tmps := #[.string s, .slice A n c, .pointer (some ⟨w.heap.size, 0, none⟩), undef, .int .i64 0, .int .i64 0, .pointer (some ⟨gx, 0, none⟩), .pointer (some ⟨gy, 0, none⟩), .int .i64 x.1.1, .int .i64 x.1.2, u10, u11, u12, u13, u14, u15, u16,
          .func (.func 60) #[] #[.pointer (some ⟨bs, 0, none⟩), .pointer (some ⟨bset, 0, none⟩)], .int .i64 x.1.1, .int .i64 x.1.2, u20, u21, u22, u23, u24, u25, u26, u27], defers := [] }) ?assign ?body ?done ?stop
      case assign =>
        intro l x W K hK
        simp only [encP]
        gi_wp2
        exact hK
      case body =>
        rintro l2 pre x W ⟨⟨Bx, By, B0⟩, hb, hWs⟩ hlen
        obtain ⟨⟨a, b⟩, hab, hbs2⟩ := x
        have hF := frst_snoc pre ⟨(a, b), hab, hbs2⟩
        have hL := last_snoc pre ⟨(a, b), hab, hbs2⟩
        simp only at hab hbs2 hF hL
        have cx := Bx.cell 0
        have cy := By.cell 0
        have c0 := B0.cell 0
        have fx := Bx.frozen 0
        have fy := By.frozen 0
        simp only [List.getElem?_toArray, List.getElem?_cons_zero] at cx cy c0
        by_cases hp : pre = []
        · rw [if_pos hp] at hF
          have hF0 : frstV pre = s.size := by rw [hp]; rfl
          have HF := Lib.hid hF
          have HL := Lib.hid hL
          rw [hF0] at cx
          clear hF hL hF0 hp
          gi_wp2
          have k := (KeepsOthers.setCell W ⟨gx, 0, none⟩ (.int .i64 a)).trans (KeepsOthers.setCell _ ⟨gy, 0, none⟩ (.int .i64 b))
          refine ⟨k.from _, ⟨((Mid.refl _ _ _).setCell (p := ⟨gx, 0, none⟩) (.inl hgx.2) _).setCell (p := ⟨gy, 0, none⟩) (.inl hgy.2) _, k.walks⟩, ⟨?_, ?_, ?_⟩, (hb.setCell (p := ⟨gx, 0, none⟩) (Nat.le_of_lt hgx.1) _).setCell (p := ⟨gy, 0, none⟩) (Nat.le_of_lt hgy.1) _, Nat.le_trans hWs k.size⟩
          · rw [HF.out]; exact (Bx.set_ 0 (.int .i64 a)).far (p := ⟨gy, 0, none⟩) hxy _
          · rw [HL.out]; exact (By.far (p := ⟨gx, 0, none⟩) (Ne.symm hxy) _).set_ 0 (.int .i64 b)
          · exact (B0.far (p := ⟨gx, 0, none⟩) (Nat.ne_of_lt hgx.1) _).far (p := ⟨gy, 0, none⟩) (Nat.ne_of_lt hgy.1) _
        · rw [if_neg hp] at hF
          have hlt := frst_lt pre hp
          have HF := Lib.hid hF
          have HL := Lib.hid hL
          have hne : ((frstV pre : Int) == (s.size : Int)) = false := by rw [beq_eq_false_iff_ne]; omega
          clear hF hL hp
          gi_wp2
          have k := KeepsOthers.setCell W ⟨gy, 0, none⟩ (.int .i64 b)
          refine ⟨k.from _, ⟨(Mid.refl _ _ _).setCell (p := ⟨gy, 0, none⟩) (.inl hgy.2) _, k.walks⟩, ⟨?_, ?_, ?_⟩, hb.setCell (p := ⟨gy, 0, none⟩) (Nat.le_of_lt hgy.1) _, Nat.le_trans hWs k.size⟩
          · rw [HF.out]; exact Bx.far (p := ⟨gy, 0, none⟩) hxy _
          · rw [HL.out]; exact By.set_ 0 (.int .i64 b)
          · exact B0.far (p := ⟨gy, 0, none⟩) (Nat.ne_of_lt hgy.1) _
      case done =>
        rintro D ys W hD hys ⟨⟨Bx, By, B0⟩, hb, hWs⟩ hK
        obtain ⟨e1, e2⟩ := trim_runs s l ys hys
        rw [e1] at Bx
        rw [e2] at By
        have cx := Bx.cell 0
        have cy := By.cell 0
        simp only [List.getElem?_toArray, List.getElem?_cons_zero] at cx cy
        clear e1 e2 Bx By
        go_wp2_with fail
        go_quiet (fail)
        go_wp2
        refine ⟨by simp, .inl ⟨_, _, rfl, run_takeDeferred (w := W.drewN nq) hK, ?_⟩⟩
        exact ⟨_, results_tmp2 rfl _ _ _, rfl, (below_drewN hb nq).trans (belowK_b (w := w) (Nat.le_refl _) (W.drewN nq) D _ _ (by omega) hK rfl rfl)⟩
      case stop =>
        rintro D c pre W _ _ h _
        exact h.elim
end Go.Proofs.YteelepiaegpkhaaDoor
