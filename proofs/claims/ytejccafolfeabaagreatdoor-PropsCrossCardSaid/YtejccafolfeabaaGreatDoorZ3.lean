/-
  Several texts in one, in their build order: RefA, Same, RefB, RefC, Sort, RunA, Txt, RefD, RefT, RefU, RefV, RefW, RefX, Parse, RunB, RunC, PropsY, Wf, Wc, Wg.
-/
import Derived.Deep.DeepMust
import Derived.Shelf.SlSortCmp.WholeK
import Derived.Lib.MinMax
import Derived.RegionTactic
import Derived.BigRegion
import Derived.ChangeAlike
import Derived.Shelf.SlSortCmp.NoneTotal
import Derived.Lib.OthersKept
import Derived.Lib.DecodeN
import Derived.Defers
import Derived.Recover
import Derived.WalkMore
import Derived.RegionDies
import Derived.Deep.RegionHeld3
import Derived.Lib.ByteType
import Derived.Lib.Replace
import Derived.Lib.IndexBytes
import Derived.Test.YtejccafolfeabaaGreatDoorZ1
import Derived.Test.YtejccafolfeabaaGreatDoorZ2
/-
  kerfref02.put, Norm.
-/
namespace Go.Proofs.YtejccafolfeabaaGreatDoor
open Go.RowKit

set_option maxHeartbeats 400000 in
theorem sPut_any (B : Nat) (A : Option Addr) (n c : Nat) (l : List (Int × Int)) (x1 x2 : Int) (w : World) (hown : Own w B 80 2 A n c (l.map encR)) (hB : B ≤ w.heap.size) (hn : n ≤ 4000000) :
    Calls Tryz.prog 85 #[.slice A n c, .agg #[.int .i32 x1, .int .i32 x2]] w fun e w' =>
      ∃ A' c' l1 l2, e = .returned (.slice A' (n + 1) c') ∧ l = l1 ++ l2 ∧ (∀ y ∈ l2, x1 < y.1) ∧ (∀ o y, l1 = o ++ [y] → y.1 ≤ x1) ∧ Own w' B 80 2 A' (n + 1) c' ((l1 ++ (x1, x2) :: l2).map encR) ∧ Below B w w' := by
  obtain ⟨i0, hi0, hz0, hz1, hz2⟩ := info_parts infoR
  have hAlt := hown.lt
  go_enter Tryz.func85, Tryz.ntmps85
  go_wp2_with (at_builtin; go_must (refine wpList_app rfl (.tmp 6) (.tmp 8) _ rfl B 80 i0 _ 2 8 Tryz.underlying37 hi0 hz0 hz1 hz2 rfl (by omega) A n c (l.map encR) rfl ((hown.alloc _).alloc _) _ 1 1 [encR (x1, x2)] rfl rfl (Rd.newAt (by simp) rfl) (encR_ok [(x1, x2)]) (by unfold maxLen; omega) (by omega) (by simp; omega) ?_); intro A' c' w1 hown1 hg1 hA1)
  have hx1 : w1.cell? ⟨w.heap.size, 0, none⟩ = some (.int .i32 x1) := hg1.cell (by simp) (fun e => by
    cases A with
    | none => simp at e
    | some a => have := (hAlt a rfl).2; simp at e; omega)
  have hx2 : w1.cell? ⟨w.heap.size, 1, none⟩ = some (.int .i32 x2) := hg1.cell (by simp) (fun e => by
    cases A with
    | none => simp at e
    | some a => have := (hAlt a rfl).2; simp at e; omega)
  have hbl : Below B w w1 := below_app (((Below.refl _ _).alloc hB _).alloc (by simp; omega) _) hg1 (by simp; omega) (fun a ha => (hAlt a ha).1)
  obtain ⟨g, rfl, hgB, hgl⟩ := hown1.form (by omega)
  have hgne : g ≠ w.heap.size := by
    rcases hA1 with h | h
    · have := (hAlt _ h.symm).2; simp at this; omega
    · simp at h; omega
  have hzs : w.heap.size < w1.heap.size := by have := hg1.size; simp at this; omega
  clear hg1 hA1 hAlt hown
  go_loopw [5] (fun i wr => ∃ (k : Nat) (l1 l2 : List (Int × Int)) (z : Int × Int), i = .int .i64 k ∧ Hid (l1.length = k) ∧ Hid (l = l1 ++ l2) ∧ Hid (∀ y ∈ l2, x1 < y.1) ∧
      Own wr B 80 2 (some ⟨g, 0, none⟩) (n + 1) c' ((l1 ++ z :: l2).map encR) ∧ wr.cell? ⟨w.heap.size, 0, none⟩ = some (.int .i32 x1) ∧ wr.cell? ⟨w.heap.size, 1, none⟩ = some (.int .i32 x2) ∧ Below B w wr) (fun i _ => (intOf i).toNat)
  case atStart => exact ⟨n, l, [], (x1, x2), rfl, Lib.hid (by simpa using hown1.len), by simp [Hid], fun y hy => by simp at hy, by simpa using hown1, hx1, hx2, hbl⟩
  case round =>
    obtain ⟨k, l1, l2, z, rfl, Hk, Hl, Hlt, ho, hc1, hc2, hb⟩ := hrel
    have hkn : k ≤ n := by have := ho.len; have := Hk.out; simp at *; omega
    rcases Nat.eq_zero_or_pos k with h0 | h0
    · obtain rfl : l1 = [] := List.eq_nil_of_length_eq_zero (Hk.out.trans h0)
      subst h0
      have ⟨hd1, hd2⟩ := ho.cellR (k := 0) (x := z) rfl
      have hf1 := ho.frozen 0
      have hf2 := ho.frozen 1
      simp only [Nat.zero_mul, Nat.zero_add] at hd1 hd2
      go_wp2_with fail
      go_quiet (fail)
      go_wp2
      go_ret
      exact ⟨_, _, [], l2, rfl, by simpa using Hl.out, Hlt.out, fun o y h => by simp at h, (ho.drewN _).storedR (k := 0) (by simp) x1 x2, ((below_drewN hb _).setCell hgB _).setCell hgB _⟩
    · obtain ⟨j, rfl⟩ : ∃ j, k = j + 1 := ⟨k - 1, by omega⟩
      obtain ⟨l1', y, y2, rfl⟩ : ∃ l1' y y2, l1 = l1' ++ [(y, y2)] := by
        rcases snoc_cases l1 with h | h
        · have := Hk.out; simp [h] at this
        · obtain ⟨o, ⟨a, b⟩, h⟩ := h; exact ⟨o, a, b, h⟩
      have Hj : Hid (l1'.length = j) := Lib.hid (by have := Hk.out; simpa using this)
      have hgy : (l1' ++ [(y, y2)] ++ z :: l2)[j]? = some (y, y2) := by have := Hj.out; subst this; simp
      have hgz : (l1' ++ [(y, y2)] ++ z :: l2)[j + 1]? = some z := by have := Hj.out; subst this; simp
      have ⟨hy1, hy2⟩ := ho.cellR hgy
      have ⟨hz1, hz2⟩ := ho.cellR hgz
      have hjl : j + 1 < (l1' ++ [(y, y2)] ++ z :: l2).length := (List.getElem?_eq_some_iff.1 hgz).1
      clear hgy hgz
      have hf1 := ho.frozen ((j + 1) * 2)
      have hf2 := ho.frozen ((j + 1) * 2 + 1)
      by_cases hgt : x1 < y
      · go_wp2_with fail
        go_quiet (fail)
        go_wp2
        go_roundw
        case rel =>
          refine ⟨j, l1', (y, y2) :: l2, (y, y2), rfl, Hj, Lib.hid (by have := Hl.out; simpa using this), Lib.hid (fun q hq => ?_), ?_, ?_, ?_, ((below_drewN hb _).setCell hgB _).setCell hgB _⟩
          · rcases List.mem_cons.1 hq with rfl | hq
            · exact hgt
            · exact Hlt.out q hq
          · have := (ho.drewN nq).storedR hjl y y2
            have e : (l1' ++ [(y, y2)] ++ z :: l2).set (j + 1) (y, y2) = l1' ++ (y, y2) :: (y, y2) :: l2 := by
              have h := Hj.out; subst h; simp
            rw [e] at this
            exact this
          · simp [World.cell?_setCell_other]; exact hc1
          · simp [World.cell?_setCell_other]; exact hc2
        case measure => simp [intOf]
      · have hge : y ≤ x1 := by omega
        clear hgt
        have hw1 : IntKind.i64.wrap (j : Int) = j := IntWalk.i64_in _ (by omega)
        have hdd : decide (x1 < y) = false := decide_eq_false (by omega)
        go_wp2_with fail
        go_quiet (fail)
        go_wp2
        go_ret
        refine ⟨_, _, l1' ++ [(y, y2)], l2, rfl, Hl.out, Hlt.out, fun o q h => ?_, ?_, ((below_drewN hb _).setCell hgB _).setCell hgB _⟩
        · obtain ⟨_, h⟩ := List.append_inj' h rfl
          simp at h; subst h; omega
        · have := (ho.drewN nq).storedR hjl x1 x2
          have e : (l1' ++ [(y, y2)] ++ z :: l2).set (j + 1) (x1, x2) = l1' ++ [(y, y2)] ++ (x1, x2) :: l2 := by
            have h := Hj.out; subst h; simp
          rw [e] at this
          exact this

theorem put_step {s l1 l2 : List (Int × Int)} {x : Int × Int} (hs : s = l1 ++ l2) (h2 : ∀ y ∈ l2, x.1 < y.1) (h1 : ∀ o y, l1 = o ++ [y] → y.1 ≤ x.1) (hr : Rise s) : Rise (l1 ++ x :: l2) ∧ (l1 ++ x :: l2).Perm (s ++ [x]) := by
  subst hs
  constructor
  · unfold Rise at *
    rw [List.pairwise_append] at hr ⊢
    obtain ⟨ha, hb, hc⟩ := hr
    have hx : ∀ y ∈ l1, y.1 ≤ x.1 := by
      intro y hy
      rcases snoc_cases l1 with rfl | ⟨o, z, rfl⟩
      · simp at hy
      · have hz := h1 o z rfl
        rcases List.mem_append.1 hy with hy | hy
        · have := (List.pairwise_append.1 ha).2.2 y hy z (by simp); omega
        · simp at hy; subst hy; exact hz
    refine ⟨ha, List.pairwise_cons.2 ⟨fun y hy => by have := h2 y hy; omega, hb⟩, fun y hy z hz => ?_⟩
    rcases List.mem_cons.1 hz with rfl | hz
    · exact hx y hy
    · exact hc y hy z hz
  · rw [List.append_assoc]
    exact List.Perm.append_left l1 (List.perm_append_comm (l₁ := [x]) (l₂ := l2))
theorem sPut_perm (B : Nat) (A : Option Addr) (n c : Nat) (l : List (Int × Int)) (x1 x2 : Int) (w : World) (hown : Own w B 80 2 A n c (l.map encR)) (hB : B ≤ w.heap.size) (hn : n ≤ 4000000) (hr : Rise l) :
    Calls Tryz.prog 85 #[.slice A n c, .agg #[.int .i32 x1, .int .i32 x2]] w fun e w' =>
      ∃ A' c' s, e = .returned (.slice A' (n + 1) c') ∧ Hid (Rise s) ∧ Hid (s.Perm (l ++ [(x1, x2)])) ∧ Own w' B 80 2 A' (n + 1) c' (s.map encR) ∧ Below B w w' :=
  (sPut_any B A n c l x1 x2 w hown hB hn).mono fun _ _ ⟨A', c', _, _, he, hs, h2, h1, ho, hb⟩ =>
    have h := put_step (x := (x1, x2)) hs h2 h1 hr
    ⟨A', c', _, he, h.1, h.2, ho, hb⟩
theorem keepR_snoc (l : List (Int × Int)) (k : Nat) (x : Int × Int) (h : l[k]? = some x) : keepR (l.take (k + 1)) = keepR (l.take k) ++ if max x.1 0 ≤ min x.2 1114111 then [(max x.1 0, min x.2 1114111)] else [] := by
  rw [List.take_add_one, h]
  simp only [keepR, Option.toList_some, List.map_append, List.map_cons, List.map_nil, List.filter_append]
  congr 1
  by_cases hc : max x.1 0 ≤ min x.2 1114111 <;> simp only [List.filter_cons, List.filter_nil, clampR, hc, decide_true, decide_false, if_true, if_false] <;> rfl

theorem norm_kept {l s s2 : List (Int × Int)} {k : Nat} {lo hi x1 x2 : Int} (HK : keepR (l.take (k + 1)) = keepR (l.take k) ++ if max lo 0 ≤ min hi 1114111 then [(max lo 0, min hi 1114111)] else [])
    (HP : s.Perm (keepR (l.take k))) (hp : s2.Perm (s ++ [(x1, x2)])) (e1 : x1 = max lo 0) (e2 : x2 = min hi 1114111) (hle : x1 ≤ x2) : s2.Perm (keepR (l.take (k + 1))) := by
  subst e1; subst e2
  rw [HK, if_pos hle]
  exact hp.trans (HP.append_right _)
theorem norm_lost {l s : List (Int × Int)} {k : Nat} {lo hi : Int} (HK : keepR (l.take (k + 1)) = keepR (l.take k) ++ if max lo 0 ≤ min hi 1114111 then [(max lo 0, min hi 1114111)] else [])
    (HP : s.Perm (keepR (l.take k))) (hle : ¬ max lo 0 ≤ min hi 1114111) : s.Perm (keepR (l.take (k + 1))) := by
  rw [HK, if_neg hle, List.append_nil]; exact HP

set_option maxRecDepth 100000 in
set_option maxHeartbeats 1000000 in
theorem sNorm_any (A : Option Addr) (n c : Nat) (l : List (Int × Int)) (w : World) (hA : Rd w 2 A (l.map encR)) (hl : l.length = n) (hn : n ≤ 4000000) :
    Calls Tryz.prog 49 #[.slice A n c] w fun e w' => ∃ A' n' c', e = .returned (.slice A' n' c') ∧ Own w' w.heap.size 80 2 A' n' c' ((normR l).map encR) ∧ Below w.heap.size w w' := by
  obtain ⟨i0, hi0, hz0, hz1, hz2⟩ := info_parts infoR
  have Hl := Lib.hid hl
  clear hl
  go_enter Tryz.func49, Tryz.ntmps49
  go_wp2
  go_loopw [3, 4] (fun v i wr => ∃ (k : Nat) (A1 : Option Addr) (n1 c1 : Nat) (s : List (Int × Int)), k ≤ n ∧ n1 ≤ k ∧ v = .slice A1 n1 c1 ∧ i = .int .i64 k ∧
      Own wr w.heap.size 80 2 A1 n1 c1 (s.map encR) ∧ Hid (s.Perm (keepR (l.take k))) ∧ Hid (Rise s) ∧ Below w.heap.size w wr) (fun _ i _ => n - (intOf i).toNat)
  case atStart => exact ⟨0, none, 0, 0, [], by omega, by omega, rfl, rfl, Own.nil_ _ _ _ _, by simp [Hid, keepR], List.Pairwise.nil, Below.refl _ _⟩
  case round =>
    obtain ⟨k, A1, n1, c1, s, hk, hn1, rfl, rfl, ho, HP, HR, hb⟩ := hrel
    by_cases hlt : k < n
    · obtain ⟨b, off, lo, hi, rfl, Hx, hx1, hx2⟩ := hA.atR (k := k) (by have := Hl.out; omega)
      have hx1 := cell_keep hx1 hb
      have hx2 := cell_keep hx2 hb
      have HK := Lib.hid (keepR_snoc l k (lo, hi) Hx.out)
      have hbs := hb.size
      by_cases h1 : lo < 0 <;> by_cases h2 : 1114111 < hi
      all_goals
        go_wp2_with (go_at_call 85; go_must (refine (sPut_perm w.heap.size A1 n1 c1 s _ _ _ (ho.alloc _) (by simp; omega) (by omega) HR.out).mono ?_); rintro e w2 ⟨A2, c2, s2, rfl, HR2, HP2, ho2, hb2⟩)
      all_goals
        first
          | refine ⟨⟨k + 1, _, _, _, _, by omega, by omega, rfl, by go_num, ho2, Lib.hid (norm_kept HK.out HP.out HP2.out (by omega) (by omega) (by omega)), HR2, (hb.alloc hbs _).trans hb2⟩, ?_⟩
          | refine ⟨⟨k + 1, _, _, _, _, by omega, by omega, rfl, by go_num, ho.alloc _, Lib.hid (norm_lost HK.out HP.out (by simp only; omega)), HR, hb.alloc hbs _⟩, ?_⟩
        simp [intOf]; omega
    · obtain rfl : n = k := by omega
      have HP' : Hid (s.Perm (keepR l)) := Lib.hid (by have := HP.out; rwa [List.take_of_length_le (by have := Hl.out; omega)] at this)
      clear HP hA hlt hk
      go_wp2
      go_loopw [6, 7] (fun v i wr2 => ∃ (k2 : Nat) (A2 : Option Addr) (n2 c2 : Nat) (o : List (Int × Int)), k2 ≤ n1 ∧ n2 ≤ k2 ∧ v = .slice A2 n2 c2 ∧ i = .int .i64 k2 ∧
          Own wr2 w.heap.size 80 2 A1 n1 c1 (s.map encR) ∧ Own wr2 w.heap.size 80 2 A2 n2 c2 (o.map encR) ∧ Hid (o = (s.take k2).foldl mstep []) ∧
          Hid (∀ a a2, A1 = some a → A2 = some a2 → a.block ≠ a2.block) ∧ Below w.heap.size w wr2) (fun _ i _ => n1 - (intOf i).toNat)
      case atStart => exact ⟨0, none, 0, 0, [], by omega, by omega, rfl, rfl, ho, Own.nil_ _ _ _ _, by simp [Hid], Lib.hid (fun _ _ _ h => by cases h), hb⟩
      case round =>
        clear ho hb
        obtain ⟨k2, A2, n2, c2, o, hk2, hn2, rfl, rfl, ho1, ho2, HO, HD, hb⟩ := hrel
        have hbs := hb.size
        by_cases hlt2 : k2 < n1
        · obtain ⟨g, rfl, hgB, hgl⟩ := ho1.form (by omega)
          obtain ⟨x1, x2, HX⟩ : ∃ x1 x2, Hid (s[k2]? = some (x1, x2)) := ⟨_, _, Lib.hid (List.getElem?_eq_getElem (by have := ho1.len; simp at this; omega))⟩
          have HS := Lib.hid (merge_snoc HX.out)
          have ⟨hx1, hx2⟩ := ho1.cellR HX.out
          simp only at hx1 hx2
          have HBD := Lib.hid (merge_bd HP'.out HR.out k2)
          rcases snoc_cases o with rfl | ⟨o, ⟨y1, y2⟩, rfl⟩
          · obtain rfl : n2 = 0 := by have := ho2.len; simpa using this.symm
            go_wp2_with fail
            go_quiet (fail)
            go_wp2_with (at_builtin; go_must (refine wpList_app rfl (.tmp 82) (.tmp 87) _ rfl w.heap.size 80 i0 _ 2 8 Tryz.underlying37 hi0 hz0 hz1 hz2 rfl (by omega) A2 0 c2 ([].map encR) rfl ((ho2.drewN _).alloc _) _ 1 1 [encR (x1, x2)] rfl rfl (Rd.newAt (by simp) rfl) (encR_ok [(x1, x2)]) (by unfold maxLen; omega) (by omega) (by simp; omega) ?_); intro A3 c3 w3 ho3 hg3 hA3)
            have hd3 : Hid (∀ a a2, some (⟨g, 0, none⟩ : Addr) = some a → A3 = some a2 → a.block ≠ a2.block) := Lib.hid (fun a a2 ha ha2 => by
              cases ha
              rcases hA3 with h | h
              · exact HD.out _ a2 rfl (by rw [← h]; exact ha2)
              · rw [h] at ha2; cases ha2; simp; omega)
            have ho1' := ((ho1.drewN nq).alloc (.cells #[.int .i32 x1, .int .i32 x2] 80)).grown hg3 (fun a ha => by
              cases ha; intro e; cases hA2 : A2 with
              | none => rw [hA2] at e; simp at e
              | some a2 => rw [hA2] at e; simp at e; exact HD.out _ a2 rfl hA2 e)
            have hb3 := below_app ((below_drewN hb nq).alloc hbs (.cells #[.int .i32 x1, .int .i32 x2] 80)) hg3 (by simp; omega) (fun a ha => (ho2.lt a ha).1)
            clear hg3
            go_roundw
            case rel => exact ⟨k2 + 1, A3, 1, c3, [(x1, x2)], by omega, by omega, rfl, by go_num, ho1', ho3, Lib.hid (by rw [HS.out, ← HO.out]; rfl), hd3, hb3⟩
            case measure => simp [intOf]; omega
          · obtain ⟨j, rfl⟩ : ∃ j, n2 = j + 1 := ⟨n2 - 1, by have := ho2.len; simp at this; omega⟩
            obtain ⟨g2, rfl, hgB2, hgl2⟩ := ho2.form (by omega)
            have Hj : Hid (o.length = j) := Lib.hid (by have := ho2.len; simpa using this)
            have ⟨hy1, hy2⟩ := ho2.cellR (k := j) (x := (y1, y2)) (by have := Hj.out; subst this; simp)
            simp only at hy1 hy2
            have hne : g ≠ g2 := HD.out _ _ rfl rfl
            obtain ⟨hb0, hb1, hb2⟩ : 0 ≤ y1 ∧ y1 ≤ y2 ∧ y2 ≤ 1114111 := HBD.out (y1, y2) (by rw [← HO.out]; simp)
            have hw1 : IntKind.i64.wrap (j : Int) = j := IntWalk.i64_in _ (by omega)
            have hw2 : IntKind.i32.wrap (y2 + 1) = y2 + 1 := IntWalk.i32_in _ (by omega)
            by_cases hle : x1 ≤ y2 + 1
            · have hd1 : decide (x1 ≤ y2 + 1) = true := decide_eq_true hle
              go_wp2_with fail
              go_quiet (fail)
              have hf := ho2.frozen (j * 2 + 1)
              by_cases hgt : y2 < x2
              · have hd2 : decide (y2 < x2) = true := decide_eq_true hgt
                go_wp2_with fail
                go_quiet (fail)
                go_wp2
                go_roundw
                case rel => exact ⟨k2 + 1, _, _, c2, o ++ [(y1, x2)], by omega, by omega, rfl, by go_num, (ho1.drewN _).setCell (fun a ha => by cases ha; exact hne) _, (ho2.drewN _).storedHi Hj.out x2,
                  Lib.hid (by rw [HS.out, ← HO.out, mstep_snoc, if_pos hle, show max y2 x2 = x2 by omega]), HD, (below_drewN hb _).setCell hgB2 _⟩
                case measure => simp [intOf]; omega
              · have hd2 : decide (y2 < x2) = false := decide_eq_false hgt
                have hge : x2 ≤ y2 := by omega
                clear hgt
                go_wp2_with fail
                go_quiet (fail)
                go_wp2
                go_roundw
                case rel => exact ⟨k2 + 1, _, _, c2, o ++ [(y1, y2)], by omega, by omega, rfl, by go_num, ho1.drewN _, ho2.drewN _,
                  Lib.hid (by rw [HS.out, ← HO.out, mstep_snoc, if_pos hle, show max y2 x2 = y2 by omega]), HD, below_drewN hb _⟩
                case measure => simp [intOf]; omega
            · have hd1 : decide (x1 ≤ y2 + 1) = false := decide_eq_false hle
              have hgt : y2 + 1 < x1 := by omega
              clear hle
              go_wp2_with fail
              go_quiet (fail)
              go_wp2_with (at_builtin; go_must (refine wpList_app rfl (.tmp 82) (.tmp 87) _ rfl w.heap.size 80 i0 _ 2 8 Tryz.underlying37 hi0 hz0 hz1 hz2 rfl (by omega) (some ⟨g2, 0, none⟩) (j + 1) c2 ((o ++ [(y1, y2)]).map encR) rfl ((ho2.drewN _).alloc _) _ 1 1 [encR (x1, x2)] rfl rfl (Rd.newAt (by simp) rfl) (encR_ok [(x1, x2)]) (by unfold maxLen; omega) (by omega) (by simp; omega) ?_); intro A3 c3 w3 ho3 hg3 hA3)
              have hd3 : Hid (∀ a a2, some (⟨g, 0, none⟩ : Addr) = some a → A3 = some a2 → a.block ≠ a2.block) := Lib.hid (fun a a2 ha ha2 => by
                cases ha
                rcases hA3 with h | h
                · exact HD.out _ a2 rfl (by rw [← h]; exact ha2)
                · rw [h] at ha2; cases ha2; simp; omega)
              have ho1' := ((ho1.drewN nq).alloc (.cells #[.int .i32 x1, .int .i32 x2] 80)).grown hg3 (fun a ha => by cases ha; intro e; simp at e; exact hne e)
              have hb3 := below_app ((below_drewN hb nq).alloc hbs (.cells #[.int .i32 x1, .int .i32 x2] 80)) hg3 (by simp; omega) (fun a ha => (ho2.lt a ha).1)
              clear hg3
              have Ho3 : Own w3 w.heap.size 80 2 A3 (j + 1 + 1) c3 ((o ++ [(y1, y2)] ++ [(x1, x2)]).map encR) := by rw [List.map_append]; exact ho3
              clear ho3
              go_roundw
              case rel => exact ⟨k2 + 1, A3, j + 1 + 1, c3, o ++ [(y1, y2)] ++ [(x1, x2)], by omega, by omega, rfl, by go_num, ho1', Ho3, Lib.hid (by rw [HS.out, ← HO.out, mstep_snoc, if_neg (by simp only; omega)]), hd3, hb3⟩
              case measure => simp [intOf]; omega
        · go_wp2
          go_ret
          exact ⟨_, _, _, rfl, by have := mergeR_eq HP'.out HR.out; rw [mergeR, ← List.take_of_length_le (l := s) (i := k2) (by have := ho1.len; simp at this; omega), ← HO.out] at this; rw [← this]; exact ho2, hb⟩
end Go.Proofs.YtejccafolfeabaaGreatDoor

/-
  kerfref02.Same: two lists of ranges side by side.
-/
namespace Go.Proofs.YtejccafolfeabaaGreatDoor
open Go.RowKit
attribute [local go_sem ↓] neqR eqlR

set_option maxHeartbeats 400000 in
theorem sSame_any (A A2 : Option Addr) (n c m c2 : Nat) (xs ys : List (Int × Int)) (w : World) (hA : Rd w 2 A (xs.map encR)) (hB : Rd w 2 A2 (ys.map encR))
    (hn : xs.length = n) (hm : ys.length = m) (hn' : n ≤ maxLen) (hm' : m ≤ maxLen) :
    Calls Tryz.prog 25 #[.slice A n c, .slice A2 m c2] w fun e w' => e = .returned (.bool (decide (xs = ys))) ∧ ∃ q, w' = w.drewN q := by
  unfold maxLen at hn' hm'
  by_cases hl : n = m
  · subst hl
    have Hn := Lib.hid hn; have Hm := Lib.hid hm
    clear hn hm
    go_enter Tryz.func25, Tryz.ntmps25
    go_wp2
    go_loopw [5] (fun i wr => ∃ k : Nat, k ≤ n ∧ i = .int .i64 k ∧ Hid (∀ i, i < k → xs[i]? = ys[i]?) ∧ (∃ q, wr = w.drewN q)) (fun i _ => n - (intOf i).toNat)
    case atStart => exact ⟨0, by omega, rfl, fun i hi => by omega, 0, rfl⟩
    case round =>
      obtain ⟨k, hk, rfl, HE, q, rfl⟩ := hrel
      by_cases hlt : k < n
      · obtain ⟨b, off, lo, hi, rfl, Hx, hx1, hx2⟩ := hA.atR (k := k) (by have := Hn.out; omega)
        obtain ⟨b2, off2, lo2, hi2, rfl, Hy, hy1, hy2⟩ := hB.atR (k := k) (by have := Hm.out; omega)
        by_cases he : (lo, hi) = (lo2, hi2)
        · have he' := eqRB_true he
          have HE' : Hid (∀ i, i < k + 1 → xs[i]? = ys[i]?) := fun i hi => by
            rcases Nat.lt_or_ge i k with h | h
            · exact HE.out i h
            · obtain rfl : i = k := by omega
              rw [Hx.out, Hy.out, he]
          clear he
          go_wp2_with fail
          go_quiet (fail)
          go_wp2
          go_roundw
          case rel => exact ⟨k + 1, by omega, by go_num, HE', _, rfl⟩
          case measure => simp [intOf]; omega
        · have he' := eqRB_false he
          have HF : Hid (decide (xs = ys) = false) := decide_eq_false fun e => he (by have h1 := Hx.out; rw [e, Hy.out] at h1; simpa using h1.symm)
          clear he
          go_wp2_with fail
          go_quiet (fail)
          go_wp2
          go_ret
          exact ⟨ret_bool HF.out.symm, drN2 _ _ _⟩
      · go_wp2
        go_ret
        have : xs = ys := by
          apply List.ext_getElem? 
          intro i
          rcases Nat.lt_or_ge i n with h | h
          · exact HE.out i (by omega)
          · rw [List.getElem?_eq_none (by have := Hn.out; omega), List.getElem?_eq_none (by have := Hm.out; omega)]
        exact ⟨ret_bool (by simp [this]), _, rfl⟩
  · have hl' : (((n : Int)) != (m : Int)) = true := by simp; omega
    have HF : Hid (decide (xs = ys) = false) := decide_eq_false fun e => hl (by rw [← hn, ← hm, e])
    clear hn hm
    go_enter Tryz.func25, Tryz.ntmps25
    go_wp2
    go_ret
    exact ⟨ret_bool HF.out.symm, 0, rfl⟩
end Go.Proofs.YtejccafolfeabaaGreatDoor

/-
  kerfref02.Is, Has, Or, Not, And, Minus.
-/
namespace Go.Proofs.YtejccafolfeabaaGreatDoor
open Go.RowKit

set_option maxHeartbeats 400000 in
theorem sHas_any (A : Option Addr) (n c : Nat) (l : List (Int × Int)) (r : Int) (w : World) (hA : Rd w 2 A (l.map encR)) (hl : l.length = n) (hn : n ≤ 4000000) :
    Calls Tryz.prog 21 #[.slice A n c, .int .i32 r] w fun e w' => e = .returned (.bool (hasB l r)) ∧ w = w' := by
  have Hl := Lib.hid hl
  clear hl
  by_cases h0 : 0 ≤ r ∧ r ≤ 1114111
  · obtain ⟨h0, h1⟩ := h0
    go_enter Tryz.func21, Tryz.ntmps21
    go_wp2
    go_loop [5] (fun i => ∃ k : Nat, k ≤ n ∧ i = .int .i64 k ∧ Hid (∀ x ∈ l.take k, ¬ (x.1 ≤ r ∧ r ≤ x.2))) (fun i => n - (intOf i).toNat)
    case atStart => exact ⟨0, by omega, rfl, by simp [Hid]⟩
    case round =>
      obtain ⟨k, hk, rfl, HE⟩ := hrel
      by_cases hlt : k < n
      · obtain ⟨b, off, lo, hi, rfl, Hx, hx1, hx2⟩ := hA.atR (k := k) (by have := Hl.out; omega)
        by_cases hlo : lo ≤ r <;> by_cases hhi : r ≤ hi
        · have HT : Hid (hasB l r = true) := hasB_true ⟨h0, h1, (lo, hi), List.mem_of_getElem? Hx.out, hlo, hhi⟩
          go_wp2
          go_ret
          exact ⟨ret_bool HT.out.symm, rfl⟩
        all_goals
          have HE' : Hid (∀ x ∈ l.take (k + 1), ¬ (x.1 ≤ r ∧ r ≤ x.2)) := Lib.hid (fun x hx => by
            rw [List.take_add_one, Hx.out] at hx
            rcases List.mem_append.1 hx with hx | hx
            · exact HE.out x hx
            · simp at hx; subst hx; simp only; omega)
          go_wp2
          go_round
          case rel => exact ⟨k + 1, by omega, by go_num, HE'⟩
          case measure => simp [intOf]; omega
      · have HF : Hid (hasB l r = false) := hasB_false (fun ⟨_, _, x, hx, h⟩ => HE.out x (by rw [List.take_of_length_le (by have := Hl.out; omega)]; exact hx) h)
        go_wp2
        go_ret
        exact ⟨ret_bool HF.out.symm, rfl⟩
  · have HF : Hid (hasB l r = false) := hasB_false (fun h => h0 ⟨h.1, h.2.1⟩)
    by_cases h1 : 0 ≤ r
    all_goals
      go_enter Tryz.func21, Tryz.ntmps21
      go_wp2
      go_loop [5] (fun i => ∃ k : Nat, k ≤ n ∧ i = .int .i64 k) (fun i => n - (intOf i).toNat)
      case atStart => exact ⟨0, by omega, rfl⟩
      case round =>
        obtain ⟨k, hk, rfl⟩ := hrel
        by_cases hlt : k < n
        · have h2 : ¬ r ≤ 1114111 ∨ ¬ 0 ≤ r := by omega
          first
            | (have h3 : 1114111 < r := by omega
               clear h2 h0
               go_wp2
               go_round
               case rel => exact ⟨k + 1, by omega, by go_num⟩
               case measure => simp [intOf]; omega)
            | (have h3 : r < 0 := by omega
               clear h2 h0
               go_wp2
               go_round
               case rel => exact ⟨k + 1, by omega, by go_num⟩
               case measure => simp [intOf]; omega)
        · clear h0
          go_wp2
          go_ret
          exact ⟨ret_bool HF.out.symm, rfl⟩

set_option maxHeartbeats 400000 in
theorem sIs_any (A : Option Addr) (n c : Nat) (l : List (Int × Int)) (w : World) (hA : Rd w 2 A (l.map encR)) (hl : l.length = n) (hn : n ≤ 4000000) :
    Calls Tryz.prog 19 #[.slice A n c] w fun e w' => e = .returned (.bool (decide (l = normR l))) ∧ Below w.heap.size w w' := by
  have Hl := Lib.hid hl
  clear hl
  go_enter Tryz.func19, Tryz.ntmps19
  go_wp2_with (first
    | (go_at_call 49; go_must (refine (sNorm_any A n c l _ hA Hl.out hn).mono ?_); rintro e w1 ⟨A1, n1, c1, rfl, ho1, hb1⟩)
    | (go_at_call 25; go_must (refine (sSame_any A A1 n c n1 c1 l (normR l) _ (hA.below hb1) (ho1.rd (by omega)) Hl.out (by simpa using ho1.len) (by unfold maxLen; omega) (by have := ho1.cap; omega)).mono ?_); rintro e w2 ⟨rfl, q, rfl⟩))
  go_ret
  exact ⟨rfl, below_drewN hb1 _⟩

set_option maxHeartbeats 400000 in
theorem sOr_any (A A2 : Option Addr) (n c n2 c2 : Nat) (a b : List (Int × Int)) (w : World) (hA : Rd w 2 A (a.map encR)) (hB : Rd w 2 A2 (b.map encR)) (ha : a.length = n) (hb : b.length = n2) (hn : n + n2 ≤ 4000000) :
    Calls Tryz.prog 82 #[.slice A n c, .slice A2 n2 c2] w fun e w' => ∃ A' n' c', e = .returned (.slice A' n' c') ∧ Own w' w.heap.size 80 2 A' n' c' ((orR a b).map encR) ∧ Below w.heap.size w w' := by
  obtain ⟨i0, hi0, hz0, hz1, hz2⟩ := info_parts infoR
  have Ha := Lib.hid ha
  have Hb := Lib.hid hb
  clear ha hb
  go_enter Tryz.func82, Tryz.ntmps82
  go_wp2_with (first
    | (at_builtin; refine wpList_app rfl (.tmp 5) (.tmp 6) _ rfl w.heap.size 80 i0 _ 2 8 Tryz.underlying37 hi0 hz0 hz1 hz2 rfl (by omega) (some ⟨w.heap.size, 0, none⟩) 0 0 [] rfl (Own.lit w _ _ _ (Nat.le_refl _)) A n c (a.map encR) rfl (by simpa using Ha.out) (hA.alloc _) (encR_ok a) (by unfold maxLen; omega) (by omega) (by simp) ?_; intro A3 c3 w3 ho3' hg3 _; have ho3 : Own w3 w.heap.size 80 2 A3 n c3 (a.map encR) := (by simpa using ho3'); clear ho3'; have hb3 := below_app ((Below.refl _ w).alloc (Nat.le_refl _) (.cells #[] 80)) hg3 (by simp) (fun a ha => by cases ha; exact Nat.le_refl _); clear hg3)
    | (at_builtin; refine wpList_app rfl (.tmp 7) (.tmp 8) _ rfl w.heap.size 80 i0 _ 2 8 Tryz.underlying37 hi0 hz0 hz1 hz2 rfl (by omega) A3 n c3 (a.map encR) rfl ho3 A2 n2 c2 (b.map encR) rfl (by simpa using Hb.out) (hB.below hb3) (encR_ok b) (by unfold maxLen; omega) (by omega) hb3.size ?_; intro A4 c4 w4 ho4 hg4 _; have hb4 := below_app hb3 hg4 hb3.size (fun a ha => (ho3.lt a ha).1); clear hg4)
    | (go_at_call 49; refine (sNorm_any A4 (n + n2) c4 (a ++ b) _ (by simpa using ho4.rd (by omega)) (by simp; have := Ha.out; have := Hb.out; omega) (by omega)).mono ?_; rintro e w5 ⟨A5, n5, c5, rfl, ho5, hb5⟩))
  go_ret
  exact ⟨_, _, _, rfl, ho5.more hb4.size, below_step hb4 hb5 hb4.size⟩
end Go.Proofs.YtejccafolfeabaaGreatDoor

/-
  kerfref02.Not, And, Minus.
-/
namespace Go.Proofs.YtejccafolfeabaaGreatDoor
open Go.RowKit

theorem own_nf_len {w : World} {base : Nat} {e : TypeId} {A : Option Addr} {n c : Nat} {l : List (Int × Int)} (h : Own w base e 2 A n c (l.map encR)) (hl : NF l) : n ≤ 557056 := by
  have := h.len; simp at this; have := hl.len; omega

set_option maxHeartbeats 400000 in
theorem sNot_any (A : Option Addr) (n c : Nat) (l : List (Int × Int)) (w : World) (hA : Rd w 2 A (l.map encR)) (hl : l.length = n) (hn : n ≤ 4000000) :
    Calls Tryz.prog 83 #[.slice A n c] w fun e w' => ∃ A' n' c', e = .returned (.slice A' n' c') ∧ Own w' w.heap.size 80 2 A' n' c' ((notR l).map encR) ∧ Below w.heap.size w w' := by
  obtain ⟨i0, hi0, hz0, hz1, hz2⟩ := info_parts infoR
  have Hl := Lib.hid hl
  clear hl
  have HNF := Lib.hid (normR_NF l)
  go_enter Tryz.func83, Tryz.ntmps83
  go_wp2_with (go_at_call 49; go_must (refine (sNorm_any A n c l _ hA Hl.out hn).mono ?_); rintro e w1 ⟨A1, n1, c1, rfl, ho1, hb1⟩)
  have hn1 := own_nf_len ho1 HNF.out
  have hrd := ho1.rd (by omega)
  have Hn1 : Hid ((normR l).length = n1) := Lib.hid (by simpa using ho1.len)
  have hbs1 := hb1.size
  clear ho1
  go_loopw [4, 5, 6] (fun v x i wr => ∃ (k : Nat) (A2 : Option Addr) (n2 c2 : Nat) (o : List (Int × Int)) (next : Int), k ≤ n1 ∧ n2 ≤ k ∧ v = .slice A2 n2 c2 ∧ x = .int .i32 next ∧ i = .int .i64 k ∧ 0 ≤ next ∧ next ≤ 1114112 ∧
      Own wr w1.heap.size 80 2 A2 n2 c2 (o.map encR) ∧ Hid (o ++ notGo next ((normR l).drop k) = notR l) ∧ Below w1.heap.size w1 wr) (fun _ _ i _ => n1 - (intOf i).toNat)
  case atStart => exact ⟨0, none, 0, 0, [], 0, by omega, by omega, rfl, rfl, rfl, by omega, by omega, Own.nil_ _ _ _ _, rfl, Below.refl _ _⟩
  case round =>
    obtain ⟨k, A2, n2, c2, o, next, hk, hn2, rfl, rfl, rfl, hx0, hx1, ho, HO, hb⟩ := hrel
    have hbs := hb.size
    by_cases hlt : k < n1
    · obtain ⟨b, off, lo, hi, rfl, Hx, hc1, hc2⟩ := hrd.atR (k := k) (by have := Hn1.out; omega)
      have hr1 := cell_keep hc1 hb
      have hr2 := cell_keep hc2 hb
      obtain ⟨hb0, hb1', hb2⟩ : 0 ≤ lo ∧ lo ≤ hi ∧ hi ≤ 1114111 := by
        have hm := List.mem_of_getElem? Hx.out
        have := HNF.out.2 _ hm; have := Nf_le HNF.out.1 _ hm; simp only at *; omega
      have HD := Lib.hid (drop_cons_of Hx.out)
      by_cases hc : next < lo
      · go_wp2_with (at_builtin; go_must (refine wpList_app rfl (.tmp 22) (.tmp 31) _ rfl w1.heap.size 80 i0 _ 2 8 Tryz.underlying37 hi0 hz0 hz1 hz2 rfl (by omega) A2 n2 c2 (o.map encR) rfl (ho.alloc _) _ 1 1 [encR (next, lo - 1)] rfl rfl (Rd.newAt (by simp) rfl) (encR_ok [(next, lo - 1)]) (by unfold maxLen; omega) (by omega) (by simp; omega) ?_); intro A3 c3 w3 ho3 hg3 hA3; have hb3 := below_app (hb.alloc hbs (.cells #[.int .i32 next, .int .i32 (lo - 1)] 80)) hg3 (by simp; omega) (fun a ha => (ho.lt a ha).1); clear hg3; have h3 := cell_keep hc2 hb3)
        have Ho3 : Own w3 w1.heap.size 80 2 A3 (n2 + 1) c3 ((o ++ [(next, lo - 1)]).map encR) := by rw [List.map_append]; exact ho3
        clear ho3
        go_roundw
        case rel => exact ⟨k + 1, A3, n2 + 1, c3, o ++ [(next, lo - 1)], hi + 1, by omega, by omega, rfl, rfl, by go_num, by omega, by omega, Ho3, Lib.hid (by rw [← HO.out, HD.out, notGo_cons, if_pos hc, List.append_assoc]), hb3⟩
        case measure => simp [intOf]; omega
      · have hge : lo ≤ next := by omega
        go_wp2
        go_roundw
        case rel => exact ⟨k + 1, A2, n2, c2, o, hi + 1, by omega, by omega, rfl, rfl, by go_num, by omega, by omega, ho, Lib.hid (by rw [← HO.out, HD.out, notGo_cons, if_neg hc, List.nil_append]), hb⟩
        case measure => simp [intOf]; omega
    · have Hdr : Hid ((normR l).drop k = []) := Lib.hid (List.drop_of_length_le (by have := Hn1.out; omega))
      by_cases hc : next ≤ 1114111
      · go_wp2_with (at_builtin; go_must (refine wpList_app rfl (.tmp 41) (.tmp 44) _ rfl w1.heap.size 80 i0 _ 2 8 Tryz.underlying37 hi0 hz0 hz1 hz2 rfl (by omega) A2 n2 c2 (o.map encR) rfl (ho.alloc _) _ 1 1 [encR (next, 1114111)] rfl rfl (Rd.newAt (by simp) rfl) (encR_ok [(next, 1114111)]) (by unfold maxLen; omega) (by omega) (by simp; omega) ?_); intro A3 c3 w3 ho3 hg3 hA3; have hb3 := below_app (hb.alloc hbs (.cells #[.int .i32 next, .int .i32 1114111] 80)) hg3 (by simp; omega) (fun a ha => (ho.lt a ha).1); clear hg3)
        have Ho3 : Own w3 w1.heap.size 80 2 A3 (n2 + 1) c3 ((o ++ [(next, 1114111)]).map encR) := by rw [List.map_append]; exact ho3
        clear ho3
        go_ret
        exact ⟨_, _, _, rfl, by have := HO.out; rw [Hdr.out, notGo_nil, if_pos hc] at this; rw [← this]; exact Ho3.more hbs1, below_step hb1 hb3 hbs1⟩
      · have hgt : 1114111 < next := by omega
        have HE : Hid (o = notR l) := Lib.hid (by have := HO.out; rw [Hdr.out, notGo_nil, if_neg hc, List.append_nil] at this; exact this)
        obtain rfl : next = 1114112 := by omega
        clear hc hx1 hx0 hgt
        go_wp2
        go_ret
        exact ⟨_, _, _, rfl, by rw [← HE.out]; exact ho.more hbs1, below_step hb1 hb hbs1⟩

set_option maxHeartbeats 400000 in
theorem sAnd_any (A A2 : Option Addr) (n c n2 c2 : Nat) (a b : List (Int × Int)) (w : World) (hA : Rd w 2 A (a.map encR)) (hB : Rd w 2 A2 (b.map encR)) (ha : a.length = n) (hb : b.length = n2) (hn : n ≤ 4000000) (hn2 : n2 ≤ 4000000) :
    Calls Tryz.prog 63 #[.slice A n c, .slice A2 n2 c2] w fun e w' => ∃ A' n' c', e = .returned (.slice A' n' c') ∧ Own w' w.heap.size 80 2 A' n' c' ((andR a b).map encR) ∧ Below w.heap.size w w' := by
  have Ha := Lib.hid ha
  have Hb := Lib.hid hb
  clear ha hb
  have H1 := Lib.hid (notR_NF a)
  have H2 := Lib.hid (notR_NF b)
  have H3 := Lib.hid (orR_NF (notR a) (notR b))
  go_enter Tryz.func63, Tryz.ntmps63
  go_wp2_with fail
  refine (sNot_any A n c a _ hA Ha.out hn).mono ?_
  rintro e w1 ⟨A3, n3, c3, rfl, ho1, hb1⟩
  have hn3 := own_nf_len ho1 H1.out
  go_wp2_with fail
  refine (sNot_any A2 n2 c2 b _ (hB.below hb1) Hb.out hn2).mono ?_
  rintro e w2 ⟨A4, n4, c4, rfl, ho2, hb2⟩
  have hn4 := own_nf_len ho2 H2.out
  go_wp2_with fail
  refine (sOr_any A3 A4 n3 c3 n4 c4 (notR a) (notR b) _ ((ho1.rd (by omega)).below hb2) (ho2.rd (by omega)) (by simpa using ho1.len) (by simpa using ho2.len) (by omega)).mono ?_
  rintro e w3 ⟨A5, n5, c5, rfl, ho3, hb3⟩
  have hn5 := own_nf_len ho3 H3.out
  go_wp2_with fail
  refine (sNot_any A5 n5 c5 (orR (notR a) (notR b)) _ (ho3.rd (by omega)) (by simpa using ho3.len) (by omega)).mono ?_
  rintro e w4 ⟨A6, n6, c6, rfl, ho4, hb4⟩
  go_wp2
  go_ret
  exact ⟨_, _, _, rfl, ho4.more (by have := hb1.size; have := hb2.size; have := hb3.size; omega), below_two (below_two (below_two hb1 hb2) hb3) hb4⟩

end Go.Proofs.YtejccafolfeabaaGreatDoor

/-
  THE SHELF's WORDS ON A SORTED ROW, SAID OF A ROW OF THE CALL's OWN. No program in sight.
-/
namespace Go.Proofs.YtejccafolfeabaaGreatDoor
open Go.RowKit Go.Sort

section
variable {α : Type} [Inhabited α] {enc : α → List Value} {k : Nat} {w : World} {base : Nat} {e : TypeId} {g n c : Nat} {d : Array α}

theorem own_holdsK (hk : ∀ x, (enc x).length = k) (hpos : 0 < k) (h : Own w base e k (some ⟨g, 0, none⟩) n c (d.toList.map enc)) : HoldsK enc k w g 0 d := by
  intro j hj
  rw [size_flatK] at hj
  have hq : j / k < d.size := (Nat.div_lt_iff_lt_mul hpos).2 hj
  have hr : j % k < (enc d[j / k]!).length := by rw [hk]; exact Nat.mod_lt _ hpos
  refine ⟨?_, ?_⟩
  · rw [id, get_flatK enc k d j hj]
    have h1 := h.cell (k := j / k) (j := j % k) (x := enc d[j / k]!) (u := (enc d[j / k]!)[j % k]!) (by rw [List.getElem?_map]; simp [hq]) (by rw [List.getElem?_eq_getElem hr, getElem!_pos (enc d[j / k]!) (j % k) hr])
    rw [show 0 + j = j / k * k + j % k by rw [Nat.zero_add, Nat.div_add_mod']]
    exact h1
  · exact h.frozen _

theorem flat_take (hk : ∀ x, (enc x).length = k) (hpos : 0 < k) {d' : Array α} {cur : Array Value} (hc : d'.size * k ≤ cur.size) :
    ((putCells id 0 (flatK enc k d') cur).toList.take (d'.size * k)) = (d'.toList.map enc).flatten := by
  apply List.ext_getElem?
  intro t
  have hall : ∀ x ∈ d'.toList.map enc, x.length = k := fun x hx => by obtain ⟨y, _, rfl⟩ := List.mem_map.1 hx; exact hk y
  by_cases ht : t < d'.size * k
  · have hq : t / k < d'.size := (Nat.div_lt_iff_lt_mul hpos).2 ht
    have hr : t % k < (enc d'[t / k]!).length := by rw [hk]; exact Nat.mod_lt _ hpos
    have h1 := flatten_get hall (k := t / k) (j := t % k) (x := enc d'[t / k]!) (u := (enc d'[t / k]!)[t % k]!) (by rw [List.getElem?_map]; simp [hq]) (by rw [List.getElem?_eq_getElem hr, getElem!_pos (enc d'[t / k]!) (t % k) hr])
    rw [Nat.div_add_mod'] at h1
    rw [h1, List.getElem?_take, if_pos ht, Array.getElem?_toList, putCells, Array.getElem?_mapIdx, Array.getElem?_eq_getElem (by omega)]
    have h2 := get_flatK enc k d' t ht
    simp only [Option.map_some, Nat.zero_le, true_and, Nat.zero_add, size_flatK, ht, if_true, id, Nat.sub_zero]
    rw [h2]
  · rw [List.getElem?_take, if_neg ht, List.getElem?_eq_none]
    rw [flatten_len hall]; simp; omega

theorem own_sorted (hk : ∀ x, (enc x).length = k) (hpos : 0 < k) (h : Own w base e k (some ⟨g, 0, none⟩) n c (d.toList.map enc)) {d' : Array α} (hs : d'.size = d.size) (m : Nat) (os : Array Obj) :
    Own (sortWorldK enc k w g 0 m d' os) base e k (some ⟨g, 0, none⟩) n c (d'.toList.map enc) ∧ w.grownBy (sortWorldK enc k w g 0 m d' os) (some g) := by
  have hn : d.size = n := by have := h.1; simpa using this
  rcases h.2.2.2 with ⟨h0, _⟩ | ⟨g', cap, cur, hv, hb, hh, h1, h2, h3, h4⟩
  · cases h0
  · injection hv with hA _ hc
    injection hA with hA
    injection hA with hA
    subst hA; subst hc
    have hlt : g < w.heap.size := (Array.getElem?_eq_some_iff.1 hh).1
    refine ⟨⟨by simp [hs, hn], fun x hx => by obtain ⟨y, _, rfl⟩ := List.mem_map.1 hx; exact hk y, ?_, .inr ⟨g, c, putCells id 0 (flatK enc k d') cur, rfl, hb, ?_, h1, h2, ?_, ?_⟩⟩, ?_⟩
    · rw [flatten_len (s := k) (fun x hx => by obtain ⟨y, _, rfl⟩ := List.mem_map.1 hx; exact hk y)]; simp [hs, hn]
    · show (grow _ os).heap[g]? = _
      rw [heap_grow_old _ _ (by simp [putRowK, putRow, mapBlock]; exact hlt)]
      simp only [putRowK, putRow, mapBlock, Array.getElem?_modify, if_true]
      rw [show (Go.Sort.ahead w m).heap = w.heap from rfl, hh]; rfl
    · simp [putCells, h3]
    · have := flat_take (d' := d') (cur := cur) hk hpos (by rw [h3, hs, hn]; exact Nat.mul_le_mul_right k h1)
      rw [hs, hn] at this
      exact this
    · refine ⟨rfl, rfl, rfl, by simp [sortWorldK, putRowK, putRow, mapBlock], fun i hi hne => ?_⟩
      show (grow _ os).heap[i]? = _
      rw [heap_grow_old _ _ (by simp [putRowK, putRow, mapBlock]; exact hi)]
      simp only [putRowK, putRow, mapBlock, Array.getElem?_modify]
      rw [if_neg (fun e => hne (by rw [e]))]; rfl
end
end Go.Proofs.YtejccafolfeabaaGreatDoor

/-
  runes.Norm: the closure handed to the library's sort; the function.
-/
namespace Go.Proofs.YtejccafolfeabaaGreatDoor
open Go.RowKit Go.Shelf Go.Sort

/-- A range whose first rune is one. -/
abbrev RgS := { x : Int × Int // 0 ≤ x.1 ∧ x.1 ≤ 1114111 }
instance : Inhabited RgS := ⟨⟨(0, 0), by decide, by decide⟩⟩
def encS (x : RgS) : List Value := encR x.1
theorem encS_len (x : RgS) : (encS x).length = 2 := rfl
def cfS (x y : RgS) : Int := x.1.1 - y.1.1
theorem ltS (x y : RgS) : ltOf cfS x y = decide (x.1.1 < y.1.1) := by
  unfold ltOf cfS
  by_cases h : x.1.1 < y.1.1 <;> simp [h] <;> omega
theorem swoS : SWO (ltOf cfS) where
  irrefl x := by rw [ltS]; simp
  trans x y z h1 h2 := by rw [ltS] at *; simp at *; omega
  ntrans x y z h1 h2 := by rw [ltS] at *; simp at *; omega

set_option maxHeartbeats 1000000 in
theorem closureNorm (x1 x2 y1 y2 : Int) (W : World) (hx : 0 ≤ x1 ∧ x1 ≤ 1114111) (hy : 0 ≤ y1 ∧ y1 ≤ 1114111) :
    Calls Tryz.prog 94 #[.agg #[.int .i32 x1, .int .i32 x2], .agg #[.int .i32 y1, .int .i32 y2]] W fun e w' => e = .returned (.int .i64 (x1 - y1)) ∧ ∃ q os', w' = grow (W.drewN q) os' := by
  obtain ⟨a1, a2⟩ := hx
  obtain ⟨b1, b2⟩ := hy
  go_enter Tryz.func94, Tryz.ntmps94
  go_wp2
  go_ret
  exact ⟨rfl, 0, _, by rw [alloc_eq_grow, alloc_eq_grow, grow_grow]; rfl⟩
theorem cmpLaysNorm (blk off size : Nat) (w : World) : CmpLays Tryz.prog 94 #[] encS 2 cfS blk off size w :=
  fun _ _ _ _ x y => closureNorm x.1.1 x.1.2 y.1.1 y.1.2 _ x.2 y.2

/-- The library's sort, of a row of the call's own. -/
theorem sortR_any (B g n c : Nat) (l : List (Int × Int)) (w : World) (hown : Own w B 80 2 (some ⟨g, 0, none⟩) n c (l.map encR)) (hl : ∀ x ∈ l, 0 ≤ x.1 ∧ x.1 ≤ 1114111) (hn : n ≤ 4000000) :
    Calls Tryz.prog 93 #[.slice (some ⟨g, 0, none⟩) n c, .func (.func 94) #[] #[]] w fun e w' => e = .returned (.tuple #[]) ∧ ∃ l', Hid (l'.Perm l) ∧ Hid (Rise l') ∧ Own w' B 80 2 (some ⟨g, 0, none⟩) n c (l'.map encR) ∧ w.grownBy w' (some g) := by
  have eg : ∀ args w, (callFunc 94 args).run Tryz.prog w = .ok (.enter 94 args) w := enters_of Tryz.func94 (by kernel_rfl) rfl
  let d : Array RgS := (l.pmap (fun x h => (⟨x, h⟩ : RgS)) hl).toArray
  have hdl : d.toList.map encS = l.map encR := by
    simp only [d, List.map_pmap]
    have : ∀ (l : List (Int × Int)) (hl : ∀ x ∈ l, 0 ≤ x.1 ∧ x.1 ≤ 1114111), l.pmap (fun x h => encS (⟨x, h⟩ : RgS)) hl = l.map encR := by
      intro l hl; induction l with
      | nil => rfl
      | cons a l ih => simp [List.pmap, encS]
    exact this l hl
  have hdv : d.toList.map (·.1) = l := by
    simp only [d, List.map_pmap]
    have : ∀ (l : List (Int × Int)) (hl : ∀ x ∈ l, 0 ≤ x.1 ∧ x.1 ≤ 1114111), l.pmap (fun x h => (⟨x, h⟩ : RgS).1) hl = l := by
      intro l hl; induction l with
      | nil => rfl
      | cons a l ih => simp [List.pmap, ih]
    exact this l hl
  have ho : Own w B 80 2 (some ⟨g, 0, none⟩) n c (d.toList.map encS) := by rw [hdl]; exact hown
  have hds : d.size = n := by have := ho.len; simpa using this
  have hlt : g < w.heap.size := (ho.lt _ rfl).2
  have hcon := AnyQ.slices_SortFunc Tryz.sortR 2 Tryz.isAgg80 Tryz.sizeOf80 encS encS_len (fun x v hv => by simp [encS, encR] at hv; rcases hv with rfl | rfl <;> rfl) cfS swoS 94 #[] g 0 c d w eg (cmpLaysNorm g 0 d.size w) (own_holdsK encS_len (by omega) ho) hlt (by omega)
  change Calls Tryz.prog 93 _ _ _ at hcon
  rw [hds] at hcon
  refine hcon.mono ?_
  rintro e w' ⟨rfl, d', m, os, hp, hs, rfl⟩
  obtain ⟨h1, h2⟩ := own_sorted encS_len (by omega) ho (d' := d') (by rw [hp.1]) m os
  refine ⟨rfl, d'.toList.map (·.1), ?_, ?_, ?_, h2⟩
  · have hpp := hp.2.2
    rw [Array.extract_eq_self_of_le (by rw [hp.1]; omega), Array.extract_eq_self_of_le (by omega)] at hpp
    exact Lib.hid (by rw [← hdv]; exact hpp.map _)
  · refine Lib.hid ?_
    unfold Rise
    rw [List.pairwise_map, List.pairwise_iff_getElem]
    intro i j hi hj hij
    have hi' : i < d'.size := by simpa using hi
    have hj' : j < d'.size := by simpa using hj
    have := hs i j (Nat.zero_le _) hij (by rw [hp.1] at hj'; omega)
    rw [ltS] at this
    rw [getElem!_pos d' j hj', getElem!_pos d' i hi'] at this
    simp at this
    simpa using this
  · rw [List.map_map]; exact h1

theorem sortR_all (B n c : Nat) (A : Option Addr) (l : List (Int × Int)) (w : World) (hown : Own w B 80 2 A n c (l.map encR)) (hl : ∀ x ∈ l, 0 ≤ x.1 ∧ x.1 ≤ 1114111) (hn : n ≤ 4000000) :
    Calls Tryz.prog 93 #[.slice A n c, .func (.func 94) #[] #[]] w fun e w' => e = .returned (.tuple #[]) ∧ ∃ l', Hid (l'.Perm l) ∧ Hid (Rise l') ∧ Own w' B 80 2 A n c (l'.map encR) ∧ w.grownBy w' (A.map (·.block)) := by
  rcases Nat.eq_zero_or_pos n with h0 | h0
  · subst h0
    have hnil : l = [] := by have := hown.len; simpa using this
    subst hnil
    have h := AnyF.slices_SortFunc_none Tryz.sortR A c (.func (.func 94) #[] #[]) w
    change Calls Tryz.prog 93 _ _ _ at h
    refine h.mono ?_
    rintro e w' ⟨rfl, rfl⟩
    exact ⟨rfl, [], List.Perm.refl _, List.Pairwise.nil, hown, World.grownBy.refl _ _⟩
  · obtain ⟨g, rfl, _, _⟩ := hown.form h0
    exact sortR_any B g n c l w hown hl hn

set_option maxRecDepth 100000 in
set_option maxHeartbeats 1000000 in
theorem rNorm_any (A : Option Addr) (n c : Nat) (l : List (Int × Int)) (w : World) (hA : Rd w 2 A (l.map encR)) (hl : l.length = n) (hn : n ≤ 4000000) :
    Calls Tryz.prog 59 #[.slice A n c] w fun e w' => ∃ A' n' c', e = .returned (.slice A' n' c') ∧ Own w' w.heap.size 80 2 A' n' c' ((normR l).map encR) ∧ Below w.heap.size w w' := by
  obtain ⟨i0, hi0, hz0, hz1, hz2⟩ := info_parts infoR
  have Hl := Lib.hid hl
  clear hl
  go_enter Tryz.func59, Tryz.ntmps59
  go_wp2
  go_loopw [3, 12] (fun v i wr => ∃ (k : Nat) (A1 : Option Addr) (n1 c1 : Nat) (s : List (Int × Int)), k ≤ n ∧ n1 ≤ k ∧ v = .slice A1 n1 c1 ∧ i = .int .i64 k ∧
      Own wr w.heap.size 80 2 A1 n1 c1 (s.map encR) ∧ Hid (s = keepR (l.take k)) ∧ Below w.heap.size w wr) (fun _ i _ => n - (intOf i).toNat)
  case atStart => exact ⟨0, none, 0, 0, [], by omega, by omega, rfl, rfl, Own.nil_ _ _ _ _, by simp [Hid, keepR], Below.refl _ _⟩
  case round =>
    obtain ⟨k, A1, n1, c1, s, hk, hn1, rfl, rfl, ho, HP, hb⟩ := hrel
    by_cases hlt : k < n
    · obtain ⟨b, off, lo, hi, rfl, Hx, hx1, hx2⟩ := hA.atR (k := k) (by have := Hl.out; omega)
      have hx1 := cell_keep hx1 hb
      have hx2 := cell_keep hx2 hb
      have HK := Lib.hid (keepR_snoc l k (lo, hi) Hx.out)
      have hbs := hb.size
      have hm1 : 0 ≤ max lo 0 := by omega
      have hm2 : min hi 1114111 ≤ 1114111 := by omega
      by_cases h3 : max lo 0 ≤ min hi 1114111
      · go_wp2_with (at_builtin; go_must (refine wpList_app rfl (.tmp 29) (.tmp 31) _ rfl w.heap.size 80 i0 _ 2 8 Tryz.underlying37 hi0 hz0 hz1 hz2 rfl (by omega) A1 n1 c1 (s.map encR) rfl ((ho.alloc _).alloc _) _ 1 1 [encR (max lo 0, min hi 1114111)] rfl rfl (Rd.newAt (by simp) rfl) (encR_ok [(max lo 0, min hi 1114111)]) (by unfold maxLen; omega) (by omega) (by simp; omega) ?_); intro A3 c3 w3 ho3 hg3 hA3; have hb3 := below_app ((hb.alloc hbs (.cells #[.int .i32 (max lo 0), .int .i32 (min hi 1114111)] 80)).alloc (by simp; omega) (.cells #[.int .i32 (max lo 0), .int .i32 (min hi 1114111)] 80)) hg3 (by simp; omega) (fun a ha => (ho.lt a ha).1); clear hg3)
        have Ho3 : Own w3 w.heap.size 80 2 A3 (n1 + 1) c3 ((s ++ [(max lo 0, min hi 1114111)]).map encR) := by rw [List.map_append]; exact ho3
        clear ho3
        go_roundw
        case rel => exact ⟨k + 1, A3, n1 + 1, c3, s ++ [(max lo 0, min hi 1114111)], by omega, by omega, rfl, by go_num, Ho3, Lib.hid (by rw [HK.out, if_pos h3, HP.out]), hb3⟩
        case measure => simp [intOf]; omega
      · have h4 : min hi 1114111 < max lo 0 := by omega
        have HE : Hid (s = keepR (l.take (k + 1))) := Lib.hid (by rw [HK.out, if_neg h3, List.append_nil]; exact HP.out)
        clear h3
        go_wp2
        go_roundw
        case rel => exact ⟨k + 1, A1, n1, c1, s, by omega, by omega, rfl, by go_num, ho.alloc _, HE, hb.alloc hbs _⟩
        case measure => simp [intOf]; omega
    · obtain rfl : n = k := by omega
      have HP' : Hid (s = keepR l) := Lib.hid (by have := HP.out; rwa [List.take_of_length_le (by have := Hl.out; omega)] at this)
      have Hbd : Hid (∀ x ∈ s, 0 ≤ x.1 ∧ x.1 ≤ 1114111) := Lib.hid (fun x hx => by rw [HP'.out] at hx; have := keepR_le l x hx; omega)
      clear HP hA hlt hk
      go_wp2_with (go_at_call 93; go_must (refine (sortR_all w.heap.size n1 c1 A1 s _ ho Hbd.out (by omega)).mono ?_); rintro e w2 ⟨rfl, s2, HPm, HR, ho1, hg1⟩)
      have hb1 : RowKit.Below w.heap.size w w2 := below_app hb hg1 hb.size (fun a ha => (ho.lt a ha).1)
      clear hg1 ho
      have HPm2 : Hid (s2.Perm (keepR l)) := Lib.hid (by rw [← HP'.out]; exact HPm.out)
      go_loopw [6, 38] (fun v i wr2 => ∃ (k2 : Nat) (A2 : Option Addr) (n2 c2 : Nat) (o : List (Int × Int)), k2 ≤ n1 ∧ n2 ≤ k2 ∧ v = .slice A2 n2 c2 ∧ i = .int .i64 k2 ∧
          Own wr2 w.heap.size 80 2 A1 n1 c1 (s2.map encR) ∧ Own wr2 w.heap.size 80 2 A2 n2 c2 (o.map encR) ∧ Hid (o = (s2.take k2).foldl mstep []) ∧
          Hid (∀ a a2, A1 = some a → A2 = some a2 → a.block ≠ a2.block) ∧ RowKit.Below w.heap.size w wr2) (fun _ i _ => n1 - (intOf i).toNat)
      case atStart => exact ⟨0, none, 0, 0, [], by omega, by omega, rfl, rfl, ho1, Own.nil_ _ _ _ _, by simp [Hid], Lib.hid (fun _ _ _ h => by cases h), hb1⟩
      case round =>
        clear ho1 hb hb1
        obtain ⟨k2, A2, n2, c2, o, hk2, hn2, rfl, rfl, ho1, ho2, HO, HD, hb⟩ := hrel
        have hbs := hb.size
        by_cases hlt2 : k2 < n1
        · obtain ⟨g, rfl, hgB, hgl⟩ := ho1.form (by omega)
          obtain ⟨x1, x2, HX⟩ : ∃ x1 x2, Hid (s2[k2]? = some (x1, x2)) := ⟨_, _, Lib.hid (List.getElem?_eq_getElem (by have := ho1.len; simp at this; omega))⟩
          have HS := Lib.hid (merge_snoc HX.out)
          have ⟨hx1, hx2⟩ := ho1.cellR HX.out
          simp only at hx1 hx2
          have HBD := Lib.hid (merge_bd HPm2.out HR.out k2)
          rcases snoc_cases o with rfl | ⟨o, ⟨y1, y2⟩, rfl⟩
          · obtain rfl : n2 = 0 := by have := ho2.len; simpa using this.symm
            go_wp2_with fail
            go_quiet (fail)
            go_wp2_with (at_builtin; go_must (refine wpList_app rfl (.tmp 72) (.tmp 74) _ rfl w.heap.size 80 i0 _ 2 8 Tryz.underlying37 hi0 hz0 hz1 hz2 rfl (by omega) A2 (0) c2 (([]).map encR) rfl (((ho2.alloc _).drewN _).alloc _) _ 1 1 [encR (x1, x2)] rfl rfl (Rd.newAt (by simp) rfl) (encR_ok [(x1, x2)]) (by unfold maxLen; omega) (by omega) (by simp; omega) ?_); intro A3 c3 w3 ho3 hg3 hA3)
            have hd3 : Hid (∀ a a2, some (⟨g, 0, none⟩ : Addr) = some a → A3 = some a2 → a.block ≠ a2.block) := Lib.hid (fun a a2 ha ha2 => by
              cases ha
              rcases hA3 with h | h
              · exact HD.out _ a2 rfl (by rw [← h]; exact ha2)
              · rw [h] at ha2; cases ha2; have := (ho1.lt _ rfl).2; simp at this ⊢; omega)
            have ho1' := (((ho1.alloc (.cells #[.int .i32 x1, .int .i32 x2] 80)).drewN nq).alloc (.cells #[.int .i32 x1, .int .i32 x2] 80)).grown hg3 (fun a ha => by
              cases ha; intro e; cases hA2 : A2 with
              | none => rw [hA2] at e; simp at e
              | some a2 => rw [hA2] at e; simp at e; exact HD.out _ a2 rfl hA2 e)
            have hb3 := below_app (((below_drewN (hb.alloc hbs (.cells #[.int .i32 x1, .int .i32 x2] 80)) nq)).alloc (by simp; omega) (.cells #[.int .i32 x1, .int .i32 x2] 80)) hg3 (by simp; omega) (fun a ha => (ho2.lt a ha).1)
            clear hg3
            go_roundw
            case rel => exact ⟨k2 + 1, A3, 1, c3, [(x1, x2)], by omega, by omega, rfl, by go_num, ho1', ho3, Lib.hid (by rw [HS.out, ← HO.out]; rfl), hd3, hb3⟩
            case measure => simp [intOf]; omega
          · obtain ⟨j, rfl⟩ : ∃ j, n2 = j + 1 := ⟨n2 - 1, by have := ho2.len; simp at this; omega⟩
            obtain ⟨g2, rfl, hgB2, hgl2⟩ := ho2.form (by omega)
            have Hj : Hid (o.length = j) := Lib.hid (by have := ho2.len; simpa using this)
            have ⟨hy1, hy2⟩ := ho2.cellR (k := j) (x := (y1, y2)) (by have := Hj.out; subst this; simp)
            simp only at hy1 hy2
            have hne : g ≠ g2 := HD.out _ _ rfl rfl
            obtain ⟨hb0, hb1, hb2⟩ : 0 ≤ y1 ∧ y1 ≤ y2 ∧ y2 ≤ 1114111 := HBD.out (y1, y2) (by rw [← HO.out]; simp)
            have hw1 : IntKind.i64.wrap (j : Int) = j := IntWalk.i64_in _ (by omega)
            have hw2 : IntKind.i32.wrap (y2 + 1) = y2 + 1 := IntWalk.i32_in _ (by omega)
            by_cases hle : x1 ≤ y2 + 1
            · have hd1 : decide (x1 ≤ y2 + 1) = true := decide_eq_true hle
              have hf := ho2.frozen (j * 2 + 1)
              go_wp2_with fail
              go_quiet (fail)
              go_wp2_with fail
              have hc1 : ((wr.alloc (.cells #[.int .i32 x1, .int .i32 x2] 80)).drewN nq).cell? ⟨g2, j * 2 + 1, none⟩ = some (.int .i32 y2) := cell_keep hy2 (below_drewN ((RowKit.Below.refl _ _).alloc (Nat.le_refl _) _) _)
              have hc2 : ((wr.alloc (.cells #[.int .i32 x1, .int .i32 x2] 80)).drewN nq).cell? ⟨wr.heap.size, 1, none⟩ = some (.int .i32 x2) := by simp
              have hf2 : ((wr.alloc (.cells #[.int .i32 x1, .int .i32 x2] 80)).drewN nq).frozen? ⟨g2, j * 2 + 1, none⟩ = false := (((ho2.alloc (.cells #[.int .i32 x1, .int .i32 x2] 80)).drewN nq).frozen _)
              have ho1' := (ho1.alloc (.cells #[.int .i32 x1, .int .i32 x2] 80)).drewN nq
              have ho2' := (ho2.alloc (.cells #[.int .i32 x1, .int .i32 x2] 80)).drewN nq
              have hb3 := below_drewN (hb.alloc hbs (.cells #[.int .i32 x1, .int .i32 x2] 80)) nq
              generalize ((wr.alloc (.cells #[.int .i32 x1, .int .i32 x2] 80)).drewN nq) = wq at hc1 hc2 hf2 ho1' ho2' hb3 ⊢
              clear hf hy1 hy2 hx1 hx2
              go_region
              go_wp2
              refine ⟨⟨k2 + 1, _, _, c2, o ++ [(y1, max y2 x2)], by omega, by omega, rfl, by go_num, (ho1'.setCell (fun a ha => by cases ha; exact hne) _).drew, (ho2'.storedHi Hj.out _).drew,
                Lib.hid (by rw [HS.out, ← HO.out, mstep_snoc, if_pos hle]), HD, (hb3.setCell hgB2 _).drew⟩, ?_⟩
              simp [intOf]; omega
            · have hd1 : decide (x1 ≤ y2 + 1) = false := decide_eq_false hle
              have hgt : y2 + 1 < x1 := by omega
              clear hle
              go_wp2_with fail
              go_quiet (fail)
              go_wp2_with (at_builtin; go_must (refine wpList_app rfl (.tmp 72) (.tmp 74) _ rfl w.heap.size 80 i0 _ 2 8 Tryz.underlying37 hi0 hz0 hz1 hz2 rfl (by omega) (some ⟨g2, 0, none⟩) (j + 1) c2 ((o ++ [(y1, y2)]).map encR) rfl (((ho2.alloc _).drewN _).alloc _) _ 1 1 [encR (x1, x2)] rfl rfl (Rd.newAt (by simp) rfl) (encR_ok [(x1, x2)]) (by unfold maxLen; omega) (by omega) (by simp; omega) ?_); intro A3 c3 w3 ho3 hg3 hA3)
              have hd3 : Hid (∀ a a2, some (⟨g, 0, none⟩ : Addr) = some a → A3 = some a2 → a.block ≠ a2.block) := Lib.hid (fun a a2 ha ha2 => by
                cases ha
                rcases hA3 with h | h
                · exact HD.out _ a2 rfl (by rw [← h]; exact ha2)
                · rw [h] at ha2; cases ha2; simp; omega)
              have ho1' := (((ho1.alloc (.cells #[.int .i32 x1, .int .i32 x2] 80)).drewN nq).alloc (.cells #[.int .i32 x1, .int .i32 x2] 80)).grown hg3 (fun a ha => by cases ha; intro e; simp at e; exact hne e)
              have hb3 := below_app (((below_drewN (hb.alloc hbs (.cells #[.int .i32 x1, .int .i32 x2] 80)) nq)).alloc (by simp; omega) (.cells #[.int .i32 x1, .int .i32 x2] 80)) hg3 (by simp; omega) (fun a ha => (ho2.lt a ha).1)
              clear hg3
              have Ho3 : Own w3 w.heap.size 80 2 A3 (j + 1 + 1) c3 ((o ++ [(y1, y2)] ++ [(x1, x2)]).map encR) := by rw [List.map_append]; exact ho3
              clear ho3
              go_roundw
              case rel => exact ⟨k2 + 1, A3, j + 1 + 1, c3, o ++ [(y1, y2)] ++ [(x1, x2)], by omega, by omega, rfl, by go_num, ho1', Ho3, Lib.hid (by rw [HS.out, ← HO.out, mstep_snoc, if_neg (by simp only; omega)]), hd3, hb3⟩
              case measure => simp [intOf]; omega
        · go_wp2
          go_ret
          exact ⟨_, _, _, rfl, by have := mergeR_eq HPm2.out HR.out; rw [mergeR, ← List.take_of_length_le (l := s2) (i := k2) (by have := ho1.len; simp at this; omega), ← HO.out] at this; rw [← this]; exact ho2, hb⟩
end Go.Proofs.YtejccafolfeabaaGreatDoor

/-
  PLAIN: a text's runes with their places; what is kept of it, trimmed; the runs. No walk.
-/
namespace Go.Proofs.YtejccafolfeabaaGreatDoor

/-- A text's runes from a place on: the rune, its place, the place behind it. -/
def runesGo (s : ByteArray) : Nat → Nat → List (Nat × Nat × Nat)
  | 0, _ => []
  | f + 1, a => if a < s.size then ((Utf8.decode s a).1, a, a + (Utf8.decode s a).2) :: runesGo s f (a + (Utf8.decode s a).2) else []
def runesP (s : ByteArray) : List (Nat × Nat × Nat) := runesGo s s.size 0
theorem runesGo_end {s : ByteArray} {f a : Nat} (h : s.size ≤ a) : runesGo s f a = [] := by
  cases f with
  | zero => rfl
  | succ f => rw [runesGo, if_neg (by omega)]
theorem runesGo_step {s : ByteArray} {f a : Nat} (h : a < s.size) (hf : s.size ≤ a + f) : ∃ g, f = g + 1 ∧ runesGo s f a = ((Utf8.decode s a).1, a, a + (Utf8.decode s a).2) :: runesGo s g (a + (Utf8.decode s a).2) := by
  obtain ⟨g, rfl⟩ : ∃ g, f = g + 1 := ⟨f - 1, by omega⟩
  exact ⟨g, rfl, by rw [runesGo, if_pos h]⟩
theorem runesGo_bd {s : ByteArray} : ∀ (f a : Nat), ∀ x ∈ runesGo s f a, a ≤ x.2.1 ∧ x.2.1 < x.2.2 ∧ x.2.2 ≤ s.size ∧ x.2.2 ≤ x.2.1 + 4 ∧ x.1 ≤ 1114111
  | 0, a, x, h => by simp [runesGo] at h
  | f + 1, a, x, h => by
    rw [runesGo] at h
    split at h
    · rename_i hlt
      have hd := dec_bd s a hlt
      rcases List.mem_cons.1 h with rfl | h
      · simp only; omega
      · have := runesGo_bd f _ x h; omega
    · simp at h
theorem runesP_bd {s : ByteArray} : ∀ x ∈ runesP s, x.2.1 < x.2.2 ∧ x.2.2 ≤ s.size ∧ x.2.2 ≤ x.2.1 + 4 ∧ x.1 ≤ 1114111 := fun x h => (runesGo_bd _ _ x h).2
theorem runesGo_len {s : ByteArray} : ∀ (f a : Nat), a + (runesGo s f a).length ≤ max a s.size
  | 0, a => by simp [runesGo]; omega
  | f + 1, a => by
    rw [runesGo]
    split
    · rename_i hlt
      have hd := dec_bd s a hlt
      have := runesGo_len (s := s) f (a + (Utf8.decode s a).2)
      simp only [List.length_cons]; omega
    · simp; omega
theorem runesP_len (s : ByteArray) : (runesP s).length ≤ s.size := by have := runesGo_len (s := s) s.size 0; unfold runesP; omega

/-- The first rune of a text. -/
def firstP (s : ByteArray) : Nat × Nat := match runesP s with
  | [] => (0, 0)
  | x :: _ => (x.1, x.2.2)
theorem firstP_eq (s : ByteArray) : firstP s = if 0 < s.size then Utf8.decode s 0 else (0, 0) := by
  unfold firstP runesP
  split
  · rename_i h
    by_cases h0 : 0 < s.size
    · obtain ⟨g, _, hg⟩ := runesGo_step (s := s) (f := s.size) (a := 0) h0 (by omega)
      rw [hg] at h; simp at h
    · rw [if_neg h0]
  · rename_i x r h
    by_cases h0 : 0 < s.size
    · obtain ⟨g, _, hg⟩ := runesGo_step (s := s) (f := s.size) (a := 0) h0 (by omega)
      rw [hg] at h; injection h with h _; subst h
      simp [h0]
    · rw [runesGo_end (by omega)] at h; simp at h

/-- The runes of a text that a set holds: their spans. -/
def keepP (s : ByteArray) (l : List (Int × Int)) : List UInt8 := ((runesP s).filter fun x => hasB l x.1).flatMap fun x => (s.extract x.2.1 x.2.2).data.toList
/-- Where runes of a set stand one behind the other: 'cur': the place where a run began. -/
def runsGo (h : Int → Bool) (z : Nat) : Option Nat → List (Nat × Nat × Nat) → List (Nat × Nat)
  | none, [] => []
  | some a, [] => [(a, z)]
  | none, x :: r => if h x.1 then runsGo h z (some x.2.1) r else runsGo h z none r
  | some a, x :: r => if h x.1 then runsGo h z (some a) r else (a, x.2.1) :: runsGo h z none r
def runsP (s : ByteArray) (l : List (Int × Int)) : List (Nat × Nat) := runsGo (hasB l) s.size none (runesP s)
def trimP (s : ByteArray) (l : List (Int × Int)) : Nat × Nat :=
  ((((runesP s).filter fun x => !hasB l x.1).head?.map (·.2.1)).getD s.size, (((runesP s).filter fun x => !hasB l x.1).getLast?.map (·.2.2)).getD s.size)
def ofP (s : ByteArray) : List (Int × Int) := normR ((runesP s).map fun x => ((x.1 : Int), (x.1 : Int)))
end Go.Proofs.YtejccafolfeabaaGreatDoor

/-
  kerfref02.Count, At, Index.
-/
namespace Go.Proofs.YtejccafolfeabaaGreatDoor
open Go.RowKit

theorem ret_at {a b : Int} {c d : Bool} (h : (a, c) = (b, d)) (k : IntKind) : Ending.returned (.tuple #[.int k a, .bool c]) = .returned (.tuple #[.int k b, .bool d]) := by cases h; rfl

set_option maxHeartbeats 400000 in
theorem sCount_any (A : Option Addr) (n c : Nat) (l : List (Int × Int)) (w : World) (hA : Rd w 2 A (l.map encR)) (hl : l.length = n) (hn : n ≤ 4000000) :
    Calls Tryz.prog 20 #[.slice A n c] w fun e w' => e = .returned (.int .i64 (countR l)) ∧ Below w.heap.size w w' := by
  have Hl := Lib.hid hl
  clear hl
  have HNF := Lib.hid (normR_NF l)
  go_enter Tryz.func20, Tryz.ntmps20
  go_wp2_with (go_at_call 49; go_must (refine (sNorm_any A n c l _ hA Hl.out hn).mono ?_); rintro e w1 ⟨A1, n1, c1, rfl, ho1, hb1⟩)
  have hn1 := own_nf_len ho1 HNF.out
  have hrd := ho1.rd (by omega)
  have Hn1 : Hid ((normR l).length = n1) := Lib.hid (by simpa using ho1.len)
  clear ho1
  go_loopw [4, 5] (fun v i wr => ∃ (k : Nat) (m : Int) (q : Nat), k ≤ n1 ∧ v = .int .i64 m ∧ i = .int .i64 k ∧ Hid (m = cntR ((normR l).take k)) ∧ wr = w1.drewN q) (fun _ i _ => n1 - (intOf i).toNat)
  case atStart => exact ⟨0, 0, 0, by omega, rfl, rfl, rfl, rfl⟩
  case round =>
    obtain ⟨k, m, q, hk, rfl, rfl, Hm, rfl⟩ := hrel
    by_cases hlt : k < n1
    · obtain ⟨b, off, lo, hi, rfl, Hx, hc1, hc2⟩ := hrd.atR (k := k) (by have := Hn1.out; omega)
      obtain ⟨hb0, hb1', hb2⟩ : 0 ≤ lo ∧ lo ≤ hi ∧ hi ≤ 1114111 := by
        have hm := List.mem_of_getElem? Hx.out
        have := HNF.out.2 _ hm; have := Nf_le HNF.out.1 _ hm; simp only at *; omega
      have HT := Lib.hid (cntR_take Hx.out)
      obtain ⟨hm0, hm1⟩ : 0 ≤ m ∧ m ≤ 1114112 := by rw [Hm.out]; exact (HNF.out.take k).cnt
      have hwa : IntKind.i32.wrap (hi - lo) = hi - lo := IntWalk.i32_in _ (by omega)
      have hwb : IntKind.i64.wrap (hi - lo) = hi - lo := IntWalk.i64_in _ (by omega)
      have hwc : IntKind.i64.wrap (m + (hi - lo)) = m + (hi - lo) := IntWalk.i64_in _ (by omega)
      have hwd : IntKind.i64.wrap (m + (hi - lo) + 1) = m + (hi - lo) + 1 := IntWalk.i64_in _ (by omega)
      go_wp2_with fail
      go_quiet (fail)
      clear hwa hwb hwc hwd
      go_wp2
      go_roundw
      case rel => exact ⟨k + 1, m + (hi - lo) + 1, _, by omega, rfl, by go_num, Lib.hid (by rw [HT.out, Hm.out]), rfl⟩
      case measure => simp [intOf]; omega
    · have HE : Hid (m = countR l) := Lib.hid (by rw [Hm.out, List.take_of_length_le (by have := Hn1.out; omega)]; rfl)
      go_wp2
      go_ret
      exact ⟨ret_int HE.out, below_drewN hb1 _⟩

end Go.Proofs.YtejccafolfeabaaGreatDoor

/-
  kerfref02.Runes, First.
-/
namespace Go.Proofs.YtejccafolfeabaaGreatDoor
open Go.RowKit

def encRn (x : Nat × Nat × Nat) : List Value := [.int .i32 x.1, .int .i64 x.2.1, .int .i64 x.2.2]
theorem encRn_ok (l : List (Nat × Nat × Nat)) : ∀ y ∈ l.map encRn, y.length = 3 ∧ ∀ u ∈ y, u.oneCell' = true := by
  intro y hy; obtain ⟨r, _, rfl⟩ := List.mem_map.1 hy
  exact ⟨rfl, by simp [encRn, Value.oneCell']⟩
theorem infoRR : (Tryz.prog.info? 55).map (fun i => (i.zero, i.size, i.bytes)) = some (some (.agg #[.int .i32 0, .int .i64 0, .int .i64 0]), 3, 24) := by kernel_rfl
theorem Own.iterAt {w : World} {base : Nat} {e : TypeId} {s : Nat} {A : Option Addr} {n c : Nat} {cs : List (List Value)} (h : Own w base e s A n c cs) {k : Nat} (hk : k < base) (t : ByteArray) (p : Nat) : Own (w.iterAt k t p) base e s A n c cs :=
  h.keep fun a ha => Lib.iterAt_other w k a.block t p (by have := (h.lt a ha).1; omega)
theorem iter_new (w : World) (s : ByteArray) (p : Nat) : (w.iter s p).heap[w.heap.size]? = some (.stringIter s p) := World.iter_heap w s p
theorem below_iter {B : Nat} {a w : World} (h : Below B a w) (hB : B ≤ w.heap.size) (s : ByteArray) (p : Nat) : Below B a (w.iter s p) := h.alloc hB _
theorem iterPos_of {w : World} {k p : Nat} {s : ByteArray} (h : w.heap[k]? = some (.stringIter s p)) : w.iterPos k = p := by unfold World.iterPos; rw [h]

/-- How far Runes has come. -/
def RunesAt (s : ByteArray) (p f : Nat) (o : List (Nat × Nat × Nat)) : Prop :=
  (o = [] ∧ p = 0 ∧ runesGo s f 0 = runesP s) ∨ ∃ o' r a, o = o' ++ [(r, a, s.size)] ∧ o' ++ (r, a, p) :: runesGo s f p = runesP s
theorem runesAt_first {s : ByteArray} {f : Nat} (h : runesGo s (f + 1) 0 = runesP s) (h0 : 0 < s.size) {R W : Nat} (hd : Utf8.decode s 0 = (R, W)) : RunesAt s (0 + W) f ([] ++ [(R, 0, s.size)]) := by
  refine .inr ⟨[], R, 0, rfl, ?_⟩
  rw [← h, runesGo, if_pos h0, hd]; rfl
theorem runesAt_next {s : ByteArray} {f p r a : Nat} {o' : List (Nat × Nat × Nat)} (h : o' ++ (r, a, p) :: runesGo s (f + 1) p = runesP s) (hp : p < s.size) {R W : Nat} (hd : Utf8.decode s p = (R, W)) :
    RunesAt s (p + W) f (o' ++ [(r, a, p)] ++ [(R, p, s.size)]) := by
  refine .inr ⟨o' ++ [(r, a, p)], R, p, rfl, ?_⟩
  rw [← h, runesGo, if_pos hp, hd]; simp
theorem runesAt_end {s : ByteArray} {f p : Nat} {o : List (Nat × Nat × Nat)} (h : RunesAt s p f o) (hp : p = s.size) : o = runesP s := by
  subst hp
  rcases h with ⟨rfl, h0, h⟩ | ⟨o', r, a, rfl, h⟩
  · rw [← h, runesGo_end (by omega)]
  · rw [← h, runesGo_end (Nat.le_refl _)]

set_option maxRecDepth 100000 in
set_option maxHeartbeats 800000 in
theorem sRunes_any (s : ByteArray) (w : World) (hs : s.size ≤ 1000000) :
    Calls Tryz.prog 30 #[.string s] w fun e w' => ∃ A n c, e = .returned (.slice A n c) ∧ Own w' w.heap.size 55 3 A n c ((runesP s).map encRn) ∧ Below w.heap.size w w' := by
  obtain ⟨i0, hi0, hz0, hz1, hz2⟩ := info_parts infoRR
  go_enter Tryz.func30, Tryz.ntmps30
  go_wp2
  go_loopw [3] (fun v wr => ∃ (p f : Nat) (A1 : Option Addr) (n1 c1 : Nat) (o : List (Nat × Nat × Nat)), v = .slice A1 n1 c1 ∧ wr.heap[w.heap.size]? = some (.stringIter s p) ∧ Own wr (w.heap.size + 1) 55 3 A1 n1 c1 (o.map encRn) ∧
      n1 ≤ p ∧ p ≤ s.size ∧ s.size ≤ p + f ∧ Hid (RunesAt s p f o) ∧ Below w.heap.size w wr) (fun _ wr => s.size - wr.iterPos w.heap.size)
  case atStart => exact ⟨0, s.size, none, 0, 0, [], rfl, iter_new _ _ _, Own.nil_ _ _ _ _, by omega, by omega, by omega, .inl ⟨rfl, rfl, rfl⟩, below_iter (Below.refl _ _) (Nat.le_refl _) _ _⟩
  case round =>
    obtain ⟨p, f, A1, n1, c1, o, rfl, hit, ho, hn1, hps, hf, HR, hb⟩ := hrel
    have hsz : w.heap.size < wr.heap.size := (Array.getElem?_eq_some_iff.1 hit).1
    have Hpos := Lib.hid (iterPos_of hit)
    by_cases hp : p < s.size
    · obtain ⟨⟨R, W⟩, HD⟩ : ∃ d, Utf8.decode s p = d := ⟨_, rfl⟩
      have hd := dec_bd s p hp
      have hnx : ∀ ty, (Instr.next (.pointer (some ⟨w.heap.size, 0, none⟩)) true ty).run Tryz.prog wr = _ := fun ty => Lib.run_next_any_at wr w.heap.size s p ty hit hp
      have hit2 := Lib.iterAt_heap wr w.heap.size s p (p + (Utf8.decode s p).2) hit
      have hb2 := Lib.below_iterAt hb (k := w.heap.size) (Nat.le_refl _) s (p + (Utf8.decode s p).2)
      have ho2 := ho.iterAt (k := w.heap.size) (by omega) s (p + (Utf8.decode s p).2)
      have hsz2 : w.heap.size < (wr.iterAt w.heap.size s (p + (Utf8.decode s p).2)).heap.size := by rw [Lib.iterAt_size]; exact hsz
      rw [HD] at hd hnx hit2 hb2 ho2 hsz2
      simp only at hd hnx hit2 hb2 ho2 hsz2
      have HD := Lib.hid HD
      obtain ⟨f, rfl⟩ : ∃ f', f = f' + 1 := ⟨f - 1, by omega⟩
      generalize wr.iterAt w.heap.size s (p + W) = w2 at hnx hit2 hb2 ho2 hsz2
      clear ho hb hit hsz
      rcases HR.out with ⟨rfl, rfl, hrun⟩ | ⟨o', r, a, rfl, hrun⟩
      · have HA := Lib.hid (runesAt_first hrun hp HD.out)
        obtain rfl : n1 = 0 := by omega
        clear hrun HR
        go_wp2_with (at_builtin; go_must (refine wpList_app rfl (.tmp 22) (.tmp 28) _ rfl (w.heap.size + 1) 55 i0 _ 3 24 Tryz.underlying52 hi0 hz0 hz1 hz2 rfl (by omega) A1 0 c1 ([].map encRn) rfl (ho2.alloc _) _ 1 1 [encRn (R, 0, s.size)] rfl rfl (Rd.newAt (by simp) rfl) (encRn_ok [(R, 0, s.size)]) (by unfold maxLen; omega) (by omega) (by simp; omega) ?_); intro A3 c3 w3 ho3 hg3 hA3; have hit3 := hg3.block w.heap.size (by simp; omega) (fun e => by cases A1 with | none => simp at e | some a => have := (ho2.lt a rfl).1; simp at e; omega); have hb3 := below_app (hb2.alloc (by omega) _) hg3 (by simp; omega) (fun a ha => by have := (ho2.lt a ha).1; omega); clear hg3)
        have hit4 : w3.heap[w.heap.size]? = some (.stringIter s (0 + W)) := hit3.trans ((Below.heap_alloc _ _ _ hsz2).trans hit2)
        have Ho3 : Own w3 (w.heap.size + 1) 55 3 A3 1 c3 (([] ++ [(R, 0, s.size)]).map encRn) := by rw [List.map_append]; exact ho3
        clear hit3 ho3
        go_roundw
        case rel => exact ⟨0 + W, f, A3, 1, c3, [] ++ [(R, 0, s.size)], rfl, hit4, Ho3, by omega, by omega, by omega, HA, hb3⟩
        case measure => rw [iterPos_of hit4, Hpos.out]; omega
      · have HA := Lib.hid (runesAt_next hrun hp HD.out)
        obtain ⟨j, rfl⟩ : ∃ j, n1 = j + 1 := ⟨n1 - 1, by have := ho2.len; simp at this; omega⟩
        obtain ⟨g, rfl, hgB, hgl⟩ := ho2.form (by omega)
        have Hj : Hid (o'.length = j) := Lib.hid (by have := ho2.len; simpa using this)
        have hx : ((o' ++ [(r, a, s.size)]).map encRn)[j]? = some (encRn (r, a, s.size)) := by have := Hj.out; subst this; simp
        have hc := ho2.cell (k := j) (j := 2) (u := .int .i64 s.size) hx rfl
        have hfz := ho2.frozen (j * 3 + 2)
        have ho4 := ho2.stored (k := j) (j := 2) hx (by omega) (.int .i64 p)
        have he : ((o' ++ [(r, a, s.size)]).map encRn).set j ((encRn (r, a, s.size)).set 2 (.int .i64 p)) = (o' ++ [(r, a, p)]).map encRn := by
          rw [List.map_append, List.map_append]
          have := set_mid (o'.map encRn) (encRn (r, a, s.size)) ((encRn (r, a, s.size)).set 2 (.int .i64 p)) []
          rw [List.length_map, Hj.out] at this
          exact this
        rw [he] at ho4
        have hb4 := hb2.setCell (p := ⟨g, j * 3 + 2, none⟩) (by simp only; omega) (.int .i64 p)
        have hit4 : (w2.setCell ⟨g, j * 3 + 2, none⟩ (.int .i64 p)).heap[w.heap.size]? = some (.stringIter s (p + W)) := (Below.heap_setCell w2 ⟨g, j * 3 + 2, none⟩ _ w.heap.size (by simp only; omega)).trans hit2
        have hw1 : IntKind.i64.wrap (j : Int) = j := IntWalk.i64_in _ (by omega)
        clear hrun HR hx he hit2 hb2
        go_wp2_with (at_builtin; go_must (refine wpList_app rfl (.tmp 22) (.tmp 28) _ rfl (w.heap.size + 1) 55 i0 _ 3 24 Tryz.underlying52 hi0 hz0 hz1 hz2 rfl (by omega) (some ⟨g, 0, none⟩) (j + 1) c1 ((o' ++ [(r, a, p)]).map encRn) rfl (ho4.alloc _) _ 1 1 [encRn (R, p, s.size)] rfl rfl (Rd.newAt (by simp) rfl) (encRn_ok [(R, p, s.size)]) (by unfold maxLen; omega) (by omega) (by simp; omega) ?_); intro A3 c3 w3 ho3 hg3 hA3; have hit3 := hg3.block w.heap.size (by simp; omega) (fun e => by simp at e; omega); have hb3 := below_app (hb4.alloc (by simp; omega) _) hg3 (by simp; omega) (fun a ha => by cases ha; simp only; omega); clear hg3)
        have hit5 : w3.heap[w.heap.size]? = some (.stringIter s (p + W)) := hit3.trans ((Below.heap_alloc _ _ _ (by simpa using hsz2)).trans hit4)
        have Ho3 : Own w3 (w.heap.size + 1) 55 3 A3 (j + 1 + 1) c3 ((o' ++ [(r, a, p)] ++ [(R, p, s.size)]).map encRn) := by rw [List.map_append]; exact ho3
        clear hit3 ho3
        go_roundw
        case rel => exact ⟨p + W, f, A3, j + 1 + 1, c3, o' ++ [(r, a, p)] ++ [(R, p, s.size)], rfl, hit5, Ho3, by omega, by omega, by omega, HA, hb3⟩
        case measure => rw [iterPos_of hit5, Hpos.out]; omega
    · have hnx : ∀ ty, (Instr.next (.pointer (some ⟨w.heap.size, 0, none⟩)) true ty).run Tryz.prog wr = _ := fun ty => Lib.run_next_end_at wr w.heap.size s p ty hit hp
      have HE := Lib.hid (runesAt_end HR.out (by omega))
      go_wp2
      go_ret
      exact ⟨_, _, _, rfl, by rw [← HE.out]; exact ho.more (by omega), hb⟩
end Go.Proofs.YtejccafolfeabaaGreatDoor

/-
  kerfref02.First, digit, Quoted.
-/
namespace Go.Proofs.YtejccafolfeabaaGreatDoor
open Go.RowKit

theorem ret_eq {v v' : Value} (h : v = v') : Ending.returned v = .returned v' := by rw [h]

set_option maxHeartbeats 400000 in
theorem sFirst_any (s : ByteArray) (w : World) (hs : s.size ≤ 1000000) :
    Calls Tryz.prog 142 #[.string s] w fun e w' => e = .returned (.tuple #[.int .i32 (firstP s).1, .int .i64 (firstP s).2]) ∧ Below w.heap.size w w' := by
  cases hr : runesP s with
  | nil =>
    have HF : Hid (firstP s = (0, 0)) := Lib.hid (by unfold firstP; rw [hr])
    have Hr := Lib.hid hr
    clear hr
    go_enter Tryz.func142, Tryz.ntmps142
    go_wp2_with (go_at_call 30; go_must (refine (sRunes_any s _ hs).mono ?_); rintro e w1 ⟨A1, n1, c1, rfl, ho1, hb1⟩; obtain rfl : n1 = 0 := by have := ho1.len; rw [Hr.out] at this; simpa using this.symm)
    go_ret2
    exact ⟨ret_eq (by rw [HF.out]; rfl), hb1⟩
  | cons x r =>
    obtain ⟨R, a, b⟩ := x
    have HF : Hid (firstP s = (R, b)) := Lib.hid (by unfold firstP; rw [hr])
    have Hr := Lib.hid hr
    clear hr
    go_enter Tryz.func142, Tryz.ntmps142
    go_wp2_with fail
    refine (sRunes_any s _ hs).mono ?_
    rintro e w1 ⟨A1, n1, c1, rfl, ho1, hb1⟩
    rw [Hr.out] at ho1
    have hn : 0 < n1 := by have := ho1.len; simp at this; omega
    obtain ⟨g, rfl, _, _⟩ := ho1.form hn
    have k0 := ho1.cell (k := 0) (j := 0) (u := .int .i32 R) rfl rfl
    have k2 := ho1.cell (k := 0) (j := 2) (u := .int .i64 b) rfl rfl
    simp only [Nat.zero_mul, Nat.zero_add] at k0 k2
    have hne : ((n1 : Int) == 0) = false := by rw [beq_eq_false_iff_ne]; omega
    clear ho1
    go_wp2_with fail
    go_quiet (fail)
    go_wp2
    go_ret2
    exact ⟨ret_eq (by rw [HF.out]; rfl), below_drewN hb1 _⟩

def digP (c : Int) : Int × Bool := if isHexN c then (hexDig c, true) else (0, false)
theorem digP_t {c : Int} (h : isHexN c = true) : digP c = (hexDig c, true) := if_pos h
theorem digP_f {c : Int} (h : isHexN c = false) : digP c = (0, false) := if_neg (by rw [h]; exact Bool.false_ne_true)
theorem sdigit_any (c : Int) (w : World) (h0 : 0 ≤ c) (h1 : c ≤ 255) : Calls Tryz.prog 143 #[.int .u8 c] w fun e w' => e = .returned (.tuple #[.int .i64 (digP c).1, .bool (digP c).2]) ∧ w = w' := by
  rcases (by omega : c < 48 ∨ (48 ≤ c ∧ c ≤ 57) ∨ (57 < c ∧ c < 65) ∨ (65 ≤ c ∧ c ≤ 70) ∨ 70 < c) with h | ⟨h, h'⟩ | ⟨h, h'⟩ | ⟨h, h'⟩ | h
  · have HE : Hid (digP c = (0, false)) := digP_f (isHexN_f (by omega)).symm
    go_enter Tryz.func143, Tryz.ntmps143
    go_wp2
    go_ret2
    exact ⟨ret_eq (by rw [HE.out]; rfl), rfl⟩
  · have HE : Hid (digP c = (c - 48, true)) := by
      have := digP_t (c := c) (isHexN_t (by omega)).symm; unfold hexDig at this; rw [if_pos (by omega)] at this; exact this
    go_enter Tryz.func143, Tryz.ntmps143
    go_wp2
    go_ret2
    exact ⟨ret_eq (by rw [HE.out]; rfl), rfl⟩
  · have HE : Hid (digP c = (0, false)) := digP_f (isHexN_f (by omega)).symm
    go_enter Tryz.func143, Tryz.ntmps143
    go_wp2
    go_ret2
    exact ⟨ret_eq (by rw [HE.out]; rfl), rfl⟩
  · have HE : Hid (digP c = (c - 65 + 10, true)) := by
      have := digP_t (c := c) (isHexN_t (by omega)).symm; unfold hexDig at this; rw [if_neg (by omega)] at this; exact this.trans (by congr 1; omega)
    go_enter Tryz.func143, Tryz.ntmps143
    go_wp2
    go_ret2
    exact ⟨ret_eq (by rw [HE.out]; rfl), rfl⟩
  · have HE : Hid (digP c = (0, false)) := digP_f (isHexN_f (by omega)).symm
    go_enter Tryz.func143, Tryz.ntmps143
    go_wp2
    go_ret2
    exact ⟨ret_eq (by rw [HE.out]; rfl), rfl⟩

theorem get_bang (s : ByteArray) (i : Nat) : s.get! i = s.data.toList.getD i 0 := by
  cases s with
  | mk d =>
    show d[i]! = d.toList.getD i 0
    by_cases h : i < d.size
    · rw [getElem!_pos d i h]; simp [List.getD, h]
    · rw [getElem!_neg d i h]; simp [List.getD, h]; rfl
theorem decodeN_more {n m : Nat} (b0 b1 b2 b3 : Nat) (hn : 4 ≤ n) (hm : 4 ≤ m) : Lib.decodeN n b0 b1 b2 b3 = Lib.decodeN m b0 b1 b2 b3 := by
  unfold Lib.decodeN
  simp only [show 1 < n by omega, show 2 < n by omega, show 3 < n by omega, show 1 < m by omega, show 2 < m by omega, show 3 < m by omega]
theorem window_get (s : ByteArray) (p e j : Nat) (he : e = min (p + 5) s.size) (hj : j < 4) : (s.extract p e).get! j = s.get! (p + j) := by
  rw [get_bang, get_bang, Lib.extract_data]
  by_cases h : p + j < s.size
  · simp [List.getD, List.getElem?_drop, show j < e - p by omega]
  · have h1 : s.data.toList.length ≤ p + j := by rw [size_data]; omega
    simp only [List.getD, List.getElem?_take, List.getElem?_drop]
    rw [List.getElem?_eq_none h1]
    split <;> rfl
/-- A window of five bytes shows the rune that stands there. -/
theorem decode_window (s : ByteArray) (p e : Nat) (hp : p < s.size) (he : e = min (p + 5) s.size) : Utf8.decode (s.extract p e) 0 = Utf8.decode s p := by
  have hsz : (s.extract p e).size = e - p := by rw [← size_data, Lib.extract_data, List.length_take, List.length_drop, size_data]; omega
  have g0 := window_get s p e 0 he (by omega)
  have g1 := window_get s p e 1 he (by omega)
  have g2 := window_get s p e 2 he (by omega)
  have g3 := window_get s p e 3 he (by omega)
  rw [Lib.decode_at, Lib.decode_at, hsz]
  simp only [Nat.zero_add, Nat.add_zero, Nat.sub_zero] at g0 g1 g2 g3 ⊢
  rw [g0, g1, g2, g3]
  by_cases h5 : s.size - p < 5
  · rw [show e - p = s.size - p by omega]
  · exact decodeN_more _ _ _ _ (by omega) (by omega)
theorem first_window (s : ByteArray) (a e : Nat) (ha : a ≤ s.size) (he : e = min (a + 5) s.size) : ((firstP (s.extract a e)).2 = (runeAt s a).2) ∧ ((runeAt s a).2 ≠ 0 → (firstP (s.extract a e)).1 = (runeAt s a).1) := by
  have hsz : (s.extract a e).size = e - a := by rw [← size_data, Lib.extract_data, List.length_take, List.length_drop, size_data]; omega
  rw [firstP_eq, hsz]
  unfold runeAt
  by_cases h : a < s.size
  · rw [if_pos (by omega), if_pos h, decode_window s a e h he]
    exact ⟨rfl, fun _ => rfl⟩
  · rw [if_neg (by omega), if_neg h]
    exact ⟨rfl, fun h => absurd rfl h⟩

/-- A rune between two ' : the rune, its width, and whether all of it is there. -/
def quotedP (s : ByteArray) (a : Nat) : Nat × Nat × Bool :=
  if (rest s a).head? = some 39 ∧ (runeAt s (a + 1)).2 ≠ 0 ∧ (rest s (a + 1 + (runeAt s (a + 1)).2)).head? = some 39 then ((runeAt s (a + 1)).1, (runeAt s (a + 1)).2, true) else (0, 0, false)
theorem byte_ne' {x : UInt8} {n : Nat} (h : ¬ x = UInt8.ofNat n) (hn : n < 256 := by decide) : ((x.toNat : Int) != (n : Int)) = true := by
  rw [bne_iff_ne]; intro e
  exact h (UInt8.toNat_inj.1 (by rw [show x.toNat = n by omega]; exact (UInt8.toNat_ofNat_of_lt' hn).symm))

set_option maxRecDepth 100000 in
set_option maxHeartbeats 800000 in
theorem sQuoted_any (s : ByteArray) (a : Nat) (w : World) (ha : a ≤ s.size) (hs : s.size ≤ 1000000) :
    Calls Tryz.prog 112 #[.string s, .int .i64 a] w fun e w' => e = .returned (.tuple #[.int .i32 (quotedP s a).1, .int .i64 (quotedP s a).2.1, .bool (quotedP s a).2.2]) ∧ Below w.heap.size w w' := by
  by_cases hlt : a < s.size
  · by_cases h39 : s[a]'hlt = 39
    · have hq : (((s[a]'hlt).toNat : Int) != 39) = false := by rw [h39]; rfl
      have h39' : Hid ((rest s a).head? = some 39) := Lib.hid (by rw [rest_head hlt, h39])
      clear h39
      obtain ⟨e, he, he2⟩ : ∃ e, Hid (e = min (a + 1 + 5) s.size) ∧ (e = a + 6 ∧ a + 6 ≤ s.size ∨ e = s.size ∧ s.size < a + 6) := ⟨_, rfl, by omega⟩
      have hfw := first_window s (a + 1) e (by omega) he.out
      have hbd := runeAt_bd s (a + 1) (by omega)
      obtain ⟨⟨R, W⟩, hR0⟩ : ∃ d, runeAt s (a + 1) = d := ⟨_, rfl⟩
      rw [hR0] at hfw hbd
      simp only at hfw hbd
      have HR := Lib.hid hR0
      clear hR0
      have hsz : (s.extract (a + 1) e).size ≤ 1000000 := by rw [ByteArray.size_extract]; omega
      rcases he2 with ⟨rfl, h6⟩ | ⟨rfl, h6⟩
      · go_enter Tryz.func112, Tryz.ntmps112
        go_wp2_with fail
        refine (sFirst_any _ _ hsz).mono ?_
        rintro e w1 ⟨rfl, hb1⟩
        obtain ⟨⟨R', W'⟩, HF⟩ : ∃ d, firstP (s.extract (a + 1) (a + 6)) = d := ⟨_, rfl⟩
        rw [HF] at hfw ⊢
        simp only at hfw ⊢
        obtain ⟨rfl, hfw⟩ := hfw
        have Hfw := Lib.hid hfw
        clear hfw HF
        by_cases hW : W' = 0
        · subst hW
          have HE : Hid (quotedP s a = (0, 0, false)) := Lib.hid (by unfold quotedP; rw [HR.out]; exact if_neg (fun h => h.2.1 rfl))
          go_wp2
          go_ret3
          exact ⟨ret_eq (by rw [HE.out]; rfl), hb1⟩
        · obtain rfl : R' = R := Hfw.out hW
          have hW0 : ((W' : Int) == 0) = false := by rw [beq_eq_false_iff_ne]; omega
          have HW := Lib.hid hW
          clear hW
          by_cases hend : a + 1 + W' < s.size
          · have HH := Lib.hid (rest_head hend)
            by_cases h39 : s[a + 1 + W']'hend = 39
            · have hq : (((s[a + 1 + W']'hend).toNat : Int) != 39) = false := by rw [h39]; rfl
              have HE : Hid (quotedP s a = (R', W', true)) := Lib.hid (by unfold quotedP; rw [HR.out]; exact if_pos ⟨h39'.out, HW.out, by rw [HH.out, h39]⟩)
              clear h39
              go_wp2
              go_ret3
              exact ⟨ret_eq (by rw [HE.out]; rfl), hb1⟩
            · have hq : (((s[a + 1 + W']'hend).toNat : Int) != 39) = true := byte_ne' (n := 39) h39
              have HE : Hid (quotedP s a = (0, 0, false)) := Lib.hid (by unfold quotedP; rw [HR.out]; exact if_neg (fun h => h39 (by have := h.2.2; simp only at this; rw [HH.out] at this; exact Option.some.inj this)))
              clear h39
              go_wp2
              go_ret3
              exact ⟨ret_eq (by rw [HE.out]; rfl), hb1⟩
          · exfalso; omega
      · go_enter Tryz.func112, Tryz.ntmps112
        go_wp2_with fail
        refine (sFirst_any _ _ hsz).mono ?_
        rintro e w1 ⟨rfl, hb1⟩
        obtain ⟨⟨R', W'⟩, HF⟩ : ∃ d, firstP (s.extract (a + 1) s.size) = d := ⟨_, rfl⟩
        rw [HF] at hfw ⊢
        simp only at hfw ⊢
        obtain ⟨rfl, hfw⟩ := hfw
        have Hfw := Lib.hid hfw
        clear hfw HF
        by_cases hW : W' = 0
        · subst hW
          have HE : Hid (quotedP s a = (0, 0, false)) := Lib.hid (by unfold quotedP; rw [HR.out]; exact if_neg (fun h => h.2.1 rfl))
          go_wp2
          go_ret3
          exact ⟨ret_eq (by rw [HE.out]; rfl), hb1⟩
        · obtain rfl : R' = R := Hfw.out hW
          have hW0 : ((W' : Int) == 0) = false := by rw [beq_eq_false_iff_ne]; omega
          have HW := Lib.hid hW
          clear hW
          by_cases hend : a + 1 + W' < s.size
          · have HH := Lib.hid (rest_head hend)
            by_cases h39 : s[a + 1 + W']'hend = 39
            · have hq : (((s[a + 1 + W']'hend).toNat : Int) != 39) = false := by rw [h39]; rfl
              have HE : Hid (quotedP s a = (R', W', true)) := Lib.hid (by unfold quotedP; rw [HR.out]; exact if_pos ⟨h39'.out, HW.out, by rw [HH.out, h39]⟩)
              clear h39
              go_wp2
              go_ret3
              exact ⟨ret_eq (by rw [HE.out]; rfl), hb1⟩
            · have hq : (((s[a + 1 + W']'hend).toNat : Int) != 39) = true := byte_ne' (n := 39) h39
              have HE : Hid (quotedP s a = (0, 0, false)) := Lib.hid (by unfold quotedP; rw [HR.out]; exact if_neg (fun h => h39 (by have := h.2.2; simp only at this; rw [HH.out] at this; exact Option.some.inj this)))
              clear h39
              go_wp2
              go_ret3
              exact ⟨ret_eq (by rw [HE.out]; rfl), hb1⟩
          · have HE : Hid (quotedP s a = (0, 0, false)) := Lib.hid (by unfold quotedP; rw [HR.out]; exact if_neg (fun h => by have := h.2.2; simp only at this; rw [rest_none (by omega)] at this; simp at this))
            go_wp2
            go_ret3
            exact ⟨ret_eq (by rw [HE.out]; rfl), hb1⟩
    · have hq : (((s[a]'hlt).toNat : Int) != 39) = true := byte_ne' (n := 39) h39
      have HE : Hid (quotedP s a = (0, 0, false)) := Lib.hid (if_neg (fun h => h39 (by have := h.1; rw [rest_head hlt] at this; exact Option.some.inj this)))
      clear h39
      go_enter Tryz.func112, Tryz.ntmps112
      go_wp2
      go_ret3
      exact ⟨ret_eq (by rw [HE.out]; rfl), Below.refl _ _⟩
  · have HE : Hid (quotedP s a = (0, 0, false)) := Lib.hid (if_neg (fun h => by have := h.1; rw [rest_none (by omega)] at this; simp at this))
    go_enter Tryz.func112, Tryz.ntmps112
    go_wp2
    go_ret3
    exact ⟨ret_eq (by rw [HE.out]; rfl), Below.refl _ _⟩
end Go.Proofs.YtejccafolfeabaaGreatDoor

/-
  kerfref02.spelling.
-/
namespace Go.Proofs.YtejccafolfeabaaGreatDoor
open Go.RowKit

theorem results_tmp4 {fn : Func} {t u v x : Tmp} (h : fn.results = #[.tmp t, .tmp u, .tmp v, .tmp x]) (tmps : Array Value) (P : Program) (w : World) :
    (results fn tmps).run P w = .ok (.tuple #[tmps.getD t undef, tmps.getD u undef, tmps.getD v undef, tmps.getD x undef]) w := by
  simp [results, h]
/-- What spelling hands back. -/
def spellV : Except (Int × Nat) (Int × Nat) → Value
  | .error x => .tuple #[.int .i32 0, .int .i64 0, .int .i64 x.1, .int .i64 x.2]
  | .ok (r, q) => .tuple #[.int .i32 r, .int .i64 q, .int .i64 0, .int .i64 0]
theorem spell_err {x : Except (Int × Nat) (Int × Nat)} {e : Int} {p : Nat} {v : Value} (h : x = .error (e, p)) (hv : v = .tuple #[.int .i32 0, .int .i64 0, .int .i64 e, .int .i64 p]) : Ending.returned v = .returned (spellV x) := by rw [h, hv]; rfl
theorem spell_ok {x : Except (Int × Nat) (Int × Nat)} {r : Int} {q : Nat} {v : Value} (h : x = .ok (r, q)) (hv : v = .tuple #[.int .i32 r, .int .i64 q, .int .i64 0, .int .i64 0]) : Ending.returned v = .returned (spellV x) := by rw [h, hv]; rfl

theorem hexRun_drop (s : ByteArray) (p : Nat) : ∀ k, k ≤ (hexRun s p).length → hexRun s (p + k) = (hexRun s p).drop k
  | 0, _ => rfl
  | k + 1, hk => by
    have ih := hexRun_drop s p k (by omega)
    have hne : hexRun s (p + k) ≠ [] := by
      intro e; rw [e] at ih
      have := congrArg List.length ih
      simp at this; omega
    by_cases hlt : p + k < s.size
    · rw [hexRun_cons hlt] at ih hne
      split at ih
      · rw [← Nat.add_assoc, ← List.drop_drop, ← ih]; rfl
      · rename_i hx; rw [if_neg hx] at hne; exact absurd rfl hne
    · rw [hexRun_none (by omega)] at hne; exact absurd rfl hne
theorem hexRun_in {s : ByteArray} {p k : Nat} (hk : k ≤ (hexRun s p).length) (hlt : p + k < s.size) (hx : isHexN ((s[p + k]'hlt).toNat : Int) = true) :
    k < (hexRun s p).length ∧ (hexRun s p)[k]? = some (s[p + k]'hlt) := by
  have h := hexRun_drop s p k hk
  rw [hexRun_cons hlt, if_pos hx] at h
  have h1 := congrArg List.length h
  simp at h1
  refine ⟨by omega, ?_⟩
  have h2 := congrArg List.head? h
  rw [List.head?_drop] at h2
  exact h2.symm
theorem hexRun_out {s : ByteArray} {p k : Nat} (hk : k ≤ (hexRun s p).length) (ho : s.size ≤ p + k ∨ ∃ h : p + k < s.size, isHexN ((s[p + k]'h).toNat : Int) = false) : k = (hexRun s p).length := by
  have h := hexRun_drop s p k hk
  have h0 : hexRun s (p + k) = [] := by
    rcases ho with h | ⟨h, hx⟩
    · exact hexRun_none h
    · rw [hexRun_cons h, if_neg (by rw [hx]; exact Bool.false_ne_true)]
  rw [h0] at h
  have := congrArg List.length h
  simp at this; omega
/-- How far the digits have been read. -/
def SpellAt (s : ByteArray) (a k : Nat) (n : Int) : Prop := k ≤ (hexRun s (a + 2)).length ∧ n = hexVal ((hexRun s (a + 2)).take (min k 6))
theorem spellAt_bd {s : ByteArray} {a k : Nat} {n : Int} (h : SpellAt s a k n) : 0 ≤ n ∧ n ≤ 16777216 := by
  have hb := hexVal_bd _ _ rfl (fun c hc => hexRun_all s (a + 2) c (List.mem_of_mem_take hc) : allHex ((hexRun s (a + 2)).take (min k 6)))
  rw [← h.2] at hb
  have hl : ((hexRun s (a + 2)).take (min k 6)).length ≤ 6 := by rw [List.length_take]; omega
  have : (16 : Int) ^ ((hexRun s (a + 2)).take (min k 6)).length ≤ 16 ^ 6 := by
    rcases (by omega : ((hexRun s (a + 2)).take (min k 6)).length = 0 ∨ ((hexRun s (a + 2)).take (min k 6)).length = 1 ∨ ((hexRun s (a + 2)).take (min k 6)).length = 2 ∨ ((hexRun s (a + 2)).take (min k 6)).length = 3 ∨ ((hexRun s (a + 2)).take (min k 6)).length = 4 ∨ ((hexRun s (a + 2)).take (min k 6)).length = 5 ∨ ((hexRun s (a + 2)).take (min k 6)).length = 6) with e | e | e | e | e | e | e <;> rw [e] <;> decide
  omega
theorem spellAt_few {s : ByteArray} {a k : Nat} {n : Int} (h : SpellAt s a k n) (hlt : a + 2 + k < s.size) (hx : isHexN ((s[a + 2 + k]'hlt).toNat : Int) = true) (h6 : k < 6) : SpellAt s a (k + 1) (16 * n + hexDig ((s[a + 2 + k]'hlt).toNat : Int)) := by
  obtain ⟨h1, h2⟩ := hexRun_in h.1 hlt hx
  refine ⟨h1, ?_⟩
  rw [show min (k + 1) 6 = min k 6 + 1 by omega, take_snoc_u8 (by rw [show min k 6 = k by omega]; exact h2), hexVal_snoc, ← h.2]; omega
theorem spellAt_many {s : ByteArray} {a k : Nat} {n : Int} (h : SpellAt s a k n) (hlt : a + 2 + k < s.size) (hx : isHexN ((s[a + 2 + k]'hlt).toNat : Int) = true) (h6 : 6 ≤ k) : SpellAt s a (k + 1) n := by
  obtain ⟨h1, h2⟩ := hexRun_in h.1 hlt hx
  exact ⟨h1, by rw [show min (k + 1) 6 = min k 6 by omega]; exact h.2⟩
theorem spellAt_end {s : ByteArray} {a k : Nat} {n : Int} (h : SpellAt s a k n) (ho : s.size ≤ a + 2 + k ∨ ∃ h : a + 2 + k < s.size, isHexN ((s[a + 2 + k]'h).toNat : Int) = false) :
    numP s a = if k < 4 ∨ 6 < k then .error (21, a) else if 1114111 < n then .error (22, a) else .ok (n, a + 2 + k) := by
  have hk := hexRun_out h.1 ho
  unfold numP
  rw [← hk]
  split
  · rfl
  · rename_i hc
    have : n = hexVal (hexRun s (a + 2)) := by rw [h.2, List.take_of_length_le (by omega)]
    rw [← this]

theorem isPrefix_rest {s : ByteArray} {a : Nat} (h1 : a + 1 < s.size) : [85, 43].isPrefixOf (rest s a) = (85 == s[a]'(by omega) && (43 == s[a + 1]'h1)) := by
  rw [rest_cons (by omega : a < s.size), rest_cons h1]; simp [List.isPrefixOf]
theorem notPrefix_rest {s : ByteArray} {a : Nat} (h : [85, 43].isPrefixOf (rest s a) = false) : runeP s a = if [39].isPrefixOf (rest s a) then quoP s a else .error (21, a) := by
  unfold runeP; rw [h]; rfl
theorem pre39 (s : ByteArray) (a : Nat) : [39].isPrefixOf (rest s a) = true ↔ (rest s a).head? = some 39 := by
  cases h : rest s a with
  | nil => simp
  | cons x r => simp [List.isPrefixOf]; exact eq_comm
theorem head_lt {s : ByteArray} {a : Nat} {c : UInt8} (h : (rest s a).head? = some c) : a < s.size := by
  rcases Nat.lt_or_ge a s.size with h1 | h1
  · exact h1
  · rw [rest_none h1] at h; simp at h
theorem quoted_no {s : ByteArray} {a r w : Nat} (h : quotedP s a = (r, w, false)) : (if [39].isPrefixOf (rest s a) then quoP s a else .error (21, a)) = .error (21, a) := by
  unfold quotedP at h
  split at h
  · injection h with _ h; injection h with _ h; cases h
  · rename_i hn
    by_cases h39 : (rest s a).head? = some 39
    · rw [if_pos ((pre39 s a).2 h39)]
      unfold quoP
      split
      · rfl
      · rename_i hw
        split
        · rfl
        · rename_i h3
          exact absurd ⟨h39, hw, Classical.not_not.1 h3⟩ hn
    · rw [if_neg (fun h => h39 ((pre39 s a).1 h))]
theorem quoted_yes {s : ByteArray} {a r w : Nat} (h : quotedP s a = (r, w, true)) :
    a + 1 + w < s.size ∧ w ≤ 4 ∧ r ≤ 1114111 ∧ (if [39].isPrefixOf (rest s a) then quoP s a else .error (21, a)) = (if r = 65533 ∧ w = 1 then .error (23, a + 1) else .ok ((r : Int), a + w + 2)) := by
  unfold quotedP at h
  split at h
  · rename_i hy
    obtain ⟨h1, h2, h3⟩ := hy
    injection h with e1 h; injection h with e2 _
    subst e1; subst e2
    have := head_lt h1
    have hb := runeAt_bd s (a + 1) (by omega)
    refine ⟨head_lt h3, hb.1, hb.2.2, ?_⟩
    rw [if_pos ((pre39 s a).2 h1)]
    unfold quoP
    rw [if_neg h2, if_neg (fun h => h h3)]
    split
    · rfl
    · congr 2; omega
  · injection h with _ h; injection h with _ h; cases h

set_option maxRecDepth 100000 in
set_option maxHeartbeats 800000 in
theorem spell_num (s : ByteArray) (a : Nat) (w : World) (ha : a + 1 < s.size) (h0 : s[a]'(by omega) = 85) (h1 : s[a + 1]'ha = 43) (hs : s.size ≤ 1000000) :
    Calls Tryz.prog 114 #[.string s, .int .i64 a] w fun e w' => e = .returned (spellV (runeP s a)) ∧ Below w.heap.size w w' := by
  have HN : Hid (runeP s a = numP s a) := Lib.hid (by unfold runeP; rw [isPrefix_rest ha, h0, h1]; rfl)
  have hq0 : (((s[a]'(by omega)).toNat : Int) == 85) = true := by rw [h0]; rfl
  have hq1 : (((s[a + 1]'ha).toNat : Int) == 43) = true := by rw [h1]; rfl
  clear h0 h1
  go_enter Tryz.func114, Tryz.ntmps114
  go_wp2_with fail
  go_loop [8, 9] (fun n k => ∃ (k' : Nat) (n' : Int), n = .int .i64 n' ∧ k = .int .i64 k' ∧ a + 2 + k' ≤ s.size ∧ Hid (SpellAt s a k' n')) (fun _ k => s.size - (intOf k).toNat)
  case atStart => exact ⟨0, 0, rfl, rfl, by omega, Lib.hid ⟨by omega, rfl⟩⟩
  case round =>
    obtain ⟨k, n, rfl, rfl, hks, HS⟩ := hrel
    obtain ⟨hn0, hn1⟩ := spellAt_bd HS.out
    by_cases hlt : a + 2 + k < s.size
    · have hcb : ((s[a + 2 + k]'hlt).toNat : Int) ≤ 255 := by have := (s[a + 2 + k]'hlt).toNat_lt; omega
      have hcz : 0 ≤ ((s[a + 2 + k]'hlt).toNat : Int) := by omega
      cases hx : isHexN ((s[a + 2 + k]'hlt).toNat : Int) with
      | true =>
        have HD := Lib.hid (digP_t hx)
        have hdb := hexDig_bd hx
        by_cases h6 : k < 6
        · have HA := Lib.hid (spellAt_few HS.out hlt hx h6)
          clear hx
          go_wp2_with fail
          refine (sdigit_any _ _ hcz hcb).mono ?_
          rintro e w' ⟨rfl, rfl⟩
          rw [HD.out]
          simp only
          generalize hexDig ((s[a + 2 + k]'hlt).toNat : Int) = D at hdb HA ⊢
          go_wp2_with fail
          go_round
          case rel => exact ⟨k + 1, 16 * n + D, rfl, by go_num, by omega, HA⟩
          case measure => simp [intOf]; omega
        · have HA := Lib.hid (spellAt_many HS.out hlt hx (by omega))
          have h6' : 6 ≤ k := by omega
          clear hx h6
          go_wp2_with fail
          refine (sdigit_any _ _ hcz hcb).mono ?_
          rintro e w' ⟨rfl, rfl⟩
          rw [HD.out]
          simp only
          generalize hexDig ((s[a + 2 + k]'hlt).toNat : Int) = D at hdb ⊢
          go_wp2_with fail
          go_round
          case rel => exact ⟨k + 1, n, rfl, by go_num, by omega, HA⟩
          case measure => simp [intOf]; omega
      | false =>
        have HD := Lib.hid (digP_f hx)
        have HE := Lib.hid (spellAt_end HS.out (.inr ⟨hlt, hx⟩))
        clear hx
        rcases (by omega : k < 4 ∨ 6 < k ∨ 4 ≤ k ∧ k ≤ 6 ∧ 1114111 < n ∨ 4 ≤ k ∧ k ≤ 6 ∧ n ≤ 1114111) with h | h | ⟨h, h', h''⟩ | ⟨h, h', h''⟩
        · have HF : Hid (runeP s a = .error (21, a)) := Lib.hid (by rw [HN.out, HE.out, if_pos (by omega)])
          go_wp2_with fail
          refine (sdigit_any _ _ hcz hcb).mono ?_
          rintro e w' ⟨rfl, rfl⟩
          rw [HD.out]
          simp only
          go_wp2
          refine bodyPost_ret (results_tmp4 rfl _ _ _) rfl ?_
          exact ⟨spell_err HF.out rfl, Below.refl _ _⟩
        · have HF : Hid (runeP s a = .error (21, a)) := Lib.hid (by rw [HN.out, HE.out, if_pos (by omega)])
          go_wp2_with fail
          refine (sdigit_any _ _ hcz hcb).mono ?_
          rintro e w' ⟨rfl, rfl⟩
          rw [HD.out]
          simp only
          go_wp2
          refine bodyPost_ret (results_tmp4 rfl _ _ _) rfl ?_
          exact ⟨spell_err HF.out rfl, Below.refl _ _⟩
        · have HF : Hid (runeP s a = .error (22, a)) := Lib.hid (by rw [HN.out, HE.out, if_neg (by omega), if_pos h''])
          go_wp2_with fail
          refine (sdigit_any _ _ hcz hcb).mono ?_
          rintro e w' ⟨rfl, rfl⟩
          rw [HD.out]
          simp only
          go_wp2
          refine bodyPost_ret (results_tmp4 rfl _ _ _) rfl ?_
          exact ⟨spell_err HF.out rfl, Below.refl _ _⟩
        · have HF : Hid (runeP s a = .ok (n, a + 2 + k)) := Lib.hid (by rw [HN.out, HE.out, if_neg (by omega), if_neg (by omega)])
          have hw1 : IntKind.i32.wrap n = n := IntWalk.i32_in _ (by omega)
          go_wp2_with fail
          refine (sdigit_any _ _ hcz hcb).mono ?_
          rintro e w' ⟨rfl, rfl⟩
          rw [HD.out]
          simp only
          go_wp2
          refine bodyPost_ret (results_tmp4 rfl _ _ _) rfl ?_
          exact ⟨spell_ok HF.out rfl, Below.refl _ _⟩
    · have HE := Lib.hid (spellAt_end HS.out (.inl (by omega)))
      rcases (by omega : k < 4 ∨ 6 < k ∨ 4 ≤ k ∧ k ≤ 6 ∧ 1114111 < n ∨ 4 ≤ k ∧ k ≤ 6 ∧ n ≤ 1114111) with h | h | ⟨h, h', h''⟩ | ⟨h, h', h''⟩
      · have HF : Hid (runeP s a = .error (21, a)) := Lib.hid (by rw [HN.out, HE.out, if_pos (by omega)])
        go_wp2
        refine bodyPost_ret (results_tmp4 rfl _ _ _) rfl ?_
        exact ⟨spell_err HF.out rfl, Below.refl _ _⟩
      · have HF : Hid (runeP s a = .error (21, a)) := Lib.hid (by rw [HN.out, HE.out, if_pos (by omega)])
        go_wp2
        refine bodyPost_ret (results_tmp4 rfl _ _ _) rfl ?_
        exact ⟨spell_err HF.out rfl, Below.refl _ _⟩
      · have HF : Hid (runeP s a = .error (22, a)) := Lib.hid (by rw [HN.out, HE.out, if_neg (by omega), if_pos h''])
        go_wp2
        refine bodyPost_ret (results_tmp4 rfl _ _ _) rfl ?_
        exact ⟨spell_err HF.out rfl, Below.refl _ _⟩
      · have HF : Hid (runeP s a = .ok (n, a + 2 + k)) := Lib.hid (by rw [HN.out, HE.out, if_neg (by omega), if_neg (by omega)])
        have hw1 : IntKind.i32.wrap n = n := IntWalk.i32_in _ (by omega)
        go_wp2
        refine bodyPost_ret (results_tmp4 rfl _ _ _) rfl ?_
        exact ⟨spell_ok HF.out rfl, Below.refl _ _⟩
end Go.Proofs.YtejccafolfeabaaGreatDoor

/-
  kerfref02.spelling whole.
-/
namespace Go.Proofs.YtejccafolfeabaaGreatDoor
open Go.RowKit

/-- Does a rune's number stand there? As the three tests of the code say it. -/
theorem notPrefix_cases {s : ByteArray} {a : Nat} (h : [85, 43].isPrefixOf (rest s a) = false) :
    s.size ≤ a + 1 ∨ (∃ h1 : a + 1 < s.size, (((s[a]'(by omega)).toNat : Int) == 85) = false) ∨ (∃ h1 : a + 1 < s.size, (((s[a]'(by omega)).toNat : Int) == 85) = true ∧ (((s[a + 1]'h1).toNat : Int) == 43) = false) := by
  by_cases h1 : a + 1 < s.size
  · rw [isPrefix_rest h1] at h
    by_cases h0 : s[a]'(by omega) = 85
    · refine .inr (.inr ⟨h1, by rw [h0]; rfl, ?_⟩)
      have : ¬ s[a + 1]'h1 = 43 := fun e => by rw [h0, e] at h; exact absurd h (by decide)
      have := byte_ne' (n := 43) this
      simpa using this
    · refine .inr (.inl ⟨h1, ?_⟩)
      have := byte_ne' (n := 85) h0
      simpa using this
  · exact .inl (by omega)

set_option maxRecDepth 100000 in
set_option maxHeartbeats 1600000 in
theorem sspelling_any (s : ByteArray) (a : Nat) (w : World) (ha : a ≤ s.size) (hs : s.size ≤ 1000000) :
    Calls Tryz.prog 114 #[.string s, .int .i64 a] w fun e w' => e = .returned (spellV (runeP s a)) ∧ Below w.heap.size w w' := by
  cases hp : [85, 43].isPrefixOf (rest s a) with
  | true =>
    have hl : a + 1 < s.size := by
      have := (List.isPrefixOf_iff_prefix.1 hp).length_le
      unfold rest at this; rw [List.length_drop, size_data] at this; simp at this; omega
    rw [isPrefix_rest hl] at hp
    simp only [Bool.and_eq_true, beq_iff_eq] at hp
    exact spell_num s a w hl hp.1.symm hp.2.symm hs
  | false =>
    have HN := Lib.hid (notPrefix_rest hp)
    rcases notPrefix_cases hp with h1 | ⟨h1, hq0⟩ | ⟨h1, hq0, hq1⟩
    all_goals
      clear hp
      go_enter Tryz.func114, Tryz.ntmps114
      go_wp2_with fail
      refine (sQuoted_any s a _ ha hs).mono ?_
      rintro e w1 ⟨rfl, hb1⟩
      obtain ⟨⟨r, wd, ok⟩, HQ⟩ : ∃ d, quotedP s a = d := ⟨_, rfl⟩
      rw [HQ]
      simp only
      cases ok with
      | false =>
        have HF : Hid (runeP s a = .error (21, a)) := Lib.hid (HN.out.trans (quoted_no HQ))
        clear HQ
        go_wp2
        refine bodyPost_ret (results_tmp4 rfl _ _ _) rfl ?_
        exact ⟨spell_err HF.out rfl, hb1⟩
      | true =>
        obtain ⟨hend, hw4, hr, hE⟩ := quoted_yes HQ
        have HE := Lib.hid (HN.out.trans hE)
        clear HQ hE
        by_cases hr9 : r = 65533
        · subst hr9
          by_cases hw1 : wd = 1
          · subst hw1
            have HF : Hid (runeP s a = .error (23, a + 1)) := Lib.hid (HE.out.trans (if_pos ⟨rfl, rfl⟩))
            go_wp2
            refine bodyPost_ret (results_tmp4 rfl _ _ _) rfl ?_
            exact ⟨spell_err HF.out rfl, hb1⟩
          · have HF : Hid (runeP s a = .ok (((65533 : Nat) : Int), a + wd + 2)) := Lib.hid (HE.out.trans (if_neg (fun h => hw1 h.2)))
            have hq : ((wd : Int) == 1) = false := by rw [beq_eq_false_iff_ne]; omega
            clear hw1
            go_wp2
            refine bodyPost_ret (results_tmp4 rfl _ _ _) rfl ?_
            exact ⟨spell_ok HF.out rfl, hb1⟩
        · have HF : Hid (runeP s a = .ok ((r : Int), a + wd + 2)) := Lib.hid (HE.out.trans (if_neg (fun h => hr9 h.1)))
          have hq : ((r : Int) == 65533) = false := by rw [beq_eq_false_iff_ne]; omega
          clear hr9
          go_wp2
          refine bodyPost_ret (results_tmp4 rfl _ _ _) rfl ?_
          exact ⟨spell_ok HF.out rfl, hb1⟩
end Go.Proofs.YtejccafolfeabaaGreatDoor

/-
  kerfref02.Parse.
-/
namespace Go.Proofs.YtejccafolfeabaaGreatDoor
open Go.RowKit

theorem itemP_of {s : ByteArray} {a p : Nat} {lo : Int} (h : runeP s a = .ok (lo, p)) : itemP s a =
    match (if (rest s p).head? = some 45 then runeP s (p + 1) else .ok (lo, p)) with
    | .error e => .error e
    | .ok (hi, q) => if hi < lo then .error (20, a) else if (rest s q).head? ≠ none ∧ (rest s q).head? ≠ some 32 then .error (21, q) else .ok ((lo, hi), q) := by
  unfold itemP; rw [h]; rfl
theorem itemP_bad {s : ByteArray} {a : Nat} {x : Int × Nat} (h : runeP s a = .error x) : itemP s a = .error x := by
  unfold itemP; rw [h]
theorem parseGo_blank {s : ByteArray} {f a : Nat} {l : List (Int × Int)} (h : a < s.size) (h32 : s[a]'h = 32) : parseGo s (f + 1) a l = parseGo s f (a + 1) l := by
  rw [parseGo, rest_head h]; simp only [h32, if_true]
theorem parseGo_item {s : ByteArray} {f a : Nat} {l : List (Int × Int)} (h : a < s.size) (h32 : ¬ s[a]'h = 32) : parseGo s (f + 1) a l = match itemP s a with
      | .error e => .error e
      | .ok (x, q) => parseGo s f q (l ++ [x]) := by
  rw [parseGo, rest_head h]; simp only [h32, if_false]; rfl
theorem parseGo_done {s : ByteArray} {f : Nat} {l : List (Int × Int)} : parseGo s f s.size l = .ok l := by
  cases f with
  | zero => rfl
  | succ f => rw [parseGo, rest_none (Nat.le_refl _)]; rfl
/-- How far Parse has come. -/
def ParseAt (s : ByteArray) (f a : Nat) (l : List (Int × Int)) : Prop := parseGo s f a l = parseP s ∧ s.size < a + f ∧ a ≤ s.size

set_option maxRecDepth 100000 in
set_option maxHeartbeats 1600000 in
theorem sParse_any (s : ByteArray) (w : World) (hs : s.size ≤ 1000000) :
    Calls Tryz.prog 79 #[.string s] w fun e w' => Below w.heap.size w w' ∧ ParseEnd w.heap.size (parseP s) e w' := by
  obtain ⟨i0, hi0, hz0, hz1, hz2⟩ := info_parts infoR
  go_enter Tryz.func79, Tryz.ntmps79
  go_wp2
  go_loopw [5, 6] (fun v i wr => ∃ (a : Nat) (l : List (Int × Int)) (A : Option Addr) (n c : Nat), v = .slice A n c ∧ i = .int .i64 a ∧ a ≤ s.size ∧ n ≤ a ∧ Hid (∃ f, ParseAt s f a l) ∧ Own wr w.heap.size 80 2 A n c (l.map encR) ∧ Below w.heap.size w wr) (fun _ i _ => s.size - (intOf i).toNat)
  case atStart => exact ⟨0, [], none, 0, 0, rfl, rfl, by omega, by omega, Lib.hid ⟨s.size + 1, rfl, by omega, by omega⟩, Own.nil_ _ _ _ _, Below.refl _ _⟩
  case round =>
    obtain ⟨a0, l, A, n, c, rfl, rfl, ha0, hna0, HP0, ho, hb⟩ := hrel
    obtain ⟨wo, rfl⟩ : ∃ wo : World, wo = wr := ⟨_, rfl⟩
    have hbs := hb.size
    go_wp2_with fail
    go_loop [6] (fun i => ∃ a : Nat, i = .int .i64 a ∧ a0 ≤ a ∧ a ≤ s.size ∧ n ≤ a ∧ Hid (∃ f, ParseAt s f a l)) (fun i => s.size - (intOf i).toNat)
    case atStart => exact ⟨a0, rfl, by omega, ha0, hna0, HP0⟩
    case round =>
      clear HP0 hna0
      obtain ⟨a, rfl, ha0a, has, hna, HP⟩ := hrel
      by_cases hlt : a < s.size
      · by_cases h32 : s[a]'hlt = 32
        · have hq : (((s[a]'hlt).toNat : Int) == 32) = true := by rw [h32]; rfl
          have HP2 : Hid (∃ f, ParseAt s f (a + 1) l) := Lib.hid (by
            obtain ⟨f, h1, h2, h3⟩ := HP.out
            obtain ⟨f, rfl⟩ : ∃ f', f = f' + 1 := ⟨f - 1, by omega⟩
            exact ⟨f, by rw [← h1, parseGo_blank hlt h32], by omega, by omega⟩)
          clear h32 HP
          go_wp2_with fail
          go_round
          case rel => exact ⟨a + 1, by go_num, by omega, by omega, by omega, HP2⟩
          case measure => simp [intOf]; omega
        · have hq : (((s[a]'hlt).toNat : Int) == 32) = false := by
            have := byte_ne (n := 32) h32
            simpa using this
          have HI : Hid (∃ f, s.size < a + (f + 1) ∧ parseP s = match itemP s a with
              | .error e => .error e
              | .ok (x, q) => parseGo s f q (l ++ [x])) := Lib.hid (by
            obtain ⟨f, h1, h2, h3⟩ := HP.out
            obtain ⟨f, rfl⟩ : ∃ f', f = f' + 1 := ⟨f - 1, by omega⟩
            exact ⟨f, by omega, by rw [← h1, parseGo_item hlt h32]⟩)
          have hne : ((a : Int) == (s.size : Int)) = false := by rw [beq_eq_false_iff_ne]; omega
          clear h32 HP
          go_wp2_with fail
          clear hq hne
          refine (sspelling_any s a _ has hs).mono ?_
          rintro e w1 ⟨rfl, hb1⟩
          have ho1 := ho.below hb1
          have hB1 := below_step hb hb1 hbs
          have hbs1 := hB1.size
          clear ho hb hb1
          cases hr : runeP s a with
          | error x =>
            obtain ⟨e, p⟩ := x
            have hE := runeP_err hr
            have HF : Hid (parseP s = .error (e, p)) := Lib.hid (by obtain ⟨f, _, h⟩ := HI.out; rw [h, itemP_bad hr])
            have hne : ((e : Int) != 0) = true := by rw [bne_iff_ne]; omega
            clear hr
            simp only [spellV]
            go_wp2
            go_ret3
            exact ⟨hB1, ParseEnd.err HF.out⟩
          | ok y =>
            obtain ⟨lo, p⟩ := y
            obtain ⟨hp1, hp2, hl0, hl1⟩ := runeP_ok hr
            have HU := Lib.hid (itemP_of hr)
            clear hr
            simp only [spellV]
            by_cases hps : p < s.size
            · by_cases h45 : s[p]'hps = 45
              · have hq : (((s[p]'hps).toNat : Int) == 45) = true := by rw [h45]; rfl
                have HU2 : Hid (itemP s a = match runeP s (p + 1) with
                    | .error e => .error e
                    | .ok (hi, q) => if hi < lo then .error (20, a) else if (rest s q).head? ≠ none ∧ (rest s q).head? ≠ some 32 then .error (21, q) else .ok ((lo, hi), q)) := Lib.hid (by rw [HU.out, rest_head hps, h45]; rfl)
                clear h45 HU
                go_wp2_with fail
                clear hq
                refine (sspelling_any s (p + 1) _ (by omega) hs).mono ?_
                rintro e w2 ⟨rfl, hb2⟩
                have ho2 := ho1.below hb2
                have hB2 := below_step hB1 hb2 hbs1
                have hbs2 := hB2.size
                clear ho1 hB1 hb2 hbs1
                cases hr : runeP s (p + 1) with
                | error x =>
                  obtain ⟨e, p'⟩ := x
                  have hE := runeP_err hr
                  have HF : Hid (parseP s = .error (e, p')) := Lib.hid (by obtain ⟨f, _, h⟩ := HI.out; rw [h, HU2.out, hr])
                  have hne : ((e : Int) != 0) = true := by rw [bne_iff_ne]; omega
                  clear hr
                  simp only [spellV]
                  go_wp2
                  go_ret3
                  exact ⟨hB2, ParseEnd.err HF.out⟩
                | ok y =>
                  obtain ⟨hi, q⟩ := y
                  obtain ⟨hq1, hq2, hh0, hh1⟩ := runeP_ok hr
                  have HU3 : Hid (itemP s a = if hi < lo then .error (20, a) else if (rest s q).head? ≠ none ∧ (rest s q).head? ≠ some 32 then .error (21, q) else .ok ((lo, hi), q)) := Lib.hid (by rw [HU2.out, hr])
                  clear hr HU2
                  simp only [spellV]
                  by_cases hlo : hi < lo
                  · have HF : Hid (parseP s = .error (20, a)) := Lib.hid (by obtain ⟨f, _, h⟩ := HI.out; rw [h, HU3.out, if_pos hlo])
                    clear HI HU3
                    go_wp2
                    go_ret3
                    exact ⟨hB2, ParseEnd.err HF.out⟩
                  · have hlo' : lo ≤ hi := by omega
                    clear hlo
                    by_cases hqs : q < s.size
                    · by_cases h32 : s[q]'hqs = 32
                      · have hq2 : (((s[q]'hqs).toNat : Int) != 32) = false := by rw [h32]; rfl
                        have HF : Hid (∃ f, ParseAt s f q (l ++ [(lo, hi)])) := Lib.hid (by
                          obtain ⟨f, h0, h⟩ := HI.out
                          refine ⟨f, ?_, by omega, by omega⟩
                          rw [h, HU3.out, if_neg (by omega), if_neg (by rw [rest_head hqs, h32]; simp)])
                        clear h32 HI HU3
                        go_wp2_with (at_builtin; go_must (refine wpList_app rfl (.tmp 83) (.tmp 87) _ rfl w.heap.size 80 i0 _ 2 8 Tryz.underlying37 hi0 hz0 hz1 hz2 rfl (by omega) A n c (l.map encR) rfl (ho2.alloc _) _ 1 1 [encR (lo, hi)] rfl rfl (Rd.newAt (by simp) rfl) (encR_ok [(lo, hi)]) (by unfold maxLen; omega) (by omega) (by simp; omega) ?_); intro A3 c3 w3 ho3 hg3 hA3; have hb3 := below_app (hB2.alloc hbs2 (.cells #[.int .i32 lo, .int .i32 hi] 80)) hg3 (by simp; omega) (fun a ha => (ho2.lt a ha).1); clear hg3)
                        have Ho3 : Own w3 w.heap.size 80 2 A3 (n + 1) c3 ((l ++ [(lo, hi)]).map encR) := by rw [List.map_append]; exact ho3
                        clear ho3
                        go_roundw
                        case rel => exact ⟨q, l ++ [(lo, hi)], A3, n + 1, c3, rfl, rfl, by omega, by omega, HF, Ho3, hb3⟩
                        case measure => simp [intOf]; omega
                      · have hq2 : (((s[q]'hqs).toNat : Int) != 32) = true := byte_ne (n := 32) h32
                        have HF : Hid (parseP s = .error (21, q)) := Lib.hid (by obtain ⟨f, _, h⟩ := HI.out; rw [h, HU3.out, if_neg (by omega), if_pos (by rw [rest_head hqs]; simpa using h32)])
                        clear h32 HI HU3
                        go_wp2
                        go_ret3
                        exact ⟨hB2, ParseEnd.err HF.out⟩
                    · have HF : Hid (∃ f, ParseAt s f q (l ++ [(lo, hi)])) := Lib.hid (by
                        obtain ⟨f, h0, h⟩ := HI.out
                        refine ⟨f, ?_, by omega, by omega⟩
                        rw [h, HU3.out, if_neg (by omega), if_neg (by rw [rest_none (by omega)]; simp)])
                      clear HI HU3
                      go_wp2_with (at_builtin; go_must (refine wpList_app rfl (.tmp 83) (.tmp 87) _ rfl w.heap.size 80 i0 _ 2 8 Tryz.underlying37 hi0 hz0 hz1 hz2 rfl (by omega) A n c (l.map encR) rfl (ho2.alloc _) _ 1 1 [encR (lo, hi)] rfl rfl (Rd.newAt (by simp) rfl) (encR_ok [(lo, hi)]) (by unfold maxLen; omega) (by omega) (by simp; omega) ?_); intro A3 c3 w3 ho3 hg3 hA3; have hb3 := below_app (hB2.alloc hbs2 (.cells #[.int .i32 lo, .int .i32 hi] 80)) hg3 (by simp; omega) (fun a ha => (ho2.lt a ha).1); clear hg3)
                      have Ho3 : Own w3 w.heap.size 80 2 A3 (n + 1) c3 ((l ++ [(lo, hi)]).map encR) := by rw [List.map_append]; exact ho3
                      clear ho3
                      go_roundw
                      case rel => exact ⟨q, l ++ [(lo, hi)], A3, n + 1, c3, rfl, rfl, by omega, by omega, HF, Ho3, hb3⟩
                      case measure => simp [intOf]; omega
              · have hq : (((s[p]'hps).toNat : Int) == 45) = false := by
                  have := byte_ne (n := 45) h45
                  simpa using this
                have HU3 : Hid (itemP s a = if lo < lo then .error (20, a) else if (rest s p).head? ≠ none ∧ (rest s p).head? ≠ some 32 then .error (21, p) else .ok ((lo, lo), p)) := Lib.hid (HU.out.trans (by simp only [if_neg (show ¬ (rest s p).head? = some 45 by rw [rest_head hps]; simpa using h45)]))
                clear h45 HU
                by_cases h32 : s[p]'hps = 32
                · have hq2 : (((s[p]'hps).toNat : Int) != 32) = false := by rw [h32]; rfl
                  have HF : Hid (∃ f, ParseAt s f p (l ++ [(lo, lo)])) := Lib.hid (by
                    obtain ⟨f, h0, h⟩ := HI.out
                    refine ⟨f, ?_, by omega, by omega⟩
                    rw [h, HU3.out, if_neg (by omega), if_neg (by rw [rest_head hps, h32]; simp)])
                  clear h32 HI HU3
                  go_wp2_with (at_builtin; go_must (refine wpList_app rfl (.tmp 83) (.tmp 87) _ rfl w.heap.size 80 i0 _ 2 8 Tryz.underlying37 hi0 hz0 hz1 hz2 rfl (by omega) A n c (l.map encR) rfl (ho1.alloc _) _ 1 1 [encR (lo, lo)] rfl rfl (Rd.newAt (by simp) rfl) (encR_ok [(lo, lo)]) (by unfold maxLen; omega) (by omega) (by simp; omega) ?_); intro A3 c3 w3 ho3 hg3 hA3; have hb3 := below_app (hB1.alloc hbs1 (.cells #[.int .i32 lo, .int .i32 lo] 80)) hg3 (by simp; omega) (fun a ha => (ho1.lt a ha).1); clear hg3)
                  have Ho3 : Own w3 w.heap.size 80 2 A3 (n + 1) c3 ((l ++ [(lo, lo)]).map encR) := by rw [List.map_append]; exact ho3
                  clear ho3
                  go_roundw
                  case rel => exact ⟨p, l ++ [(lo, lo)], A3, n + 1, c3, rfl, rfl, by omega, by omega, HF, Ho3, hb3⟩
                  case measure => simp [intOf]; omega
                · have hq2 : (((s[p]'hps).toNat : Int) != 32) = true := byte_ne (n := 32) h32
                  have HF : Hid (parseP s = .error (21, p)) := Lib.hid (by obtain ⟨f, _, h⟩ := HI.out; rw [h, HU3.out, if_neg (by omega), if_pos (by rw [rest_head hps]; simpa using h32)])
                  clear h32 HI HU3
                  go_wp2
                  go_ret3
                  exact ⟨hB1, ParseEnd.err HF.out⟩
            · have HU3 : Hid (itemP s a = if lo < lo then .error (20, a) else if (rest s p).head? ≠ none ∧ (rest s p).head? ≠ some 32 then .error (21, p) else .ok ((lo, lo), p)) := Lib.hid (HU.out.trans (by simp only [if_neg (show ¬ (rest s p).head? = some 45 by rw [rest_none (by omega)]; simp)]))
              clear HU
              have HF : Hid (∃ f, ParseAt s f p (l ++ [(lo, lo)])) := Lib.hid (by
                obtain ⟨f, h0, h⟩ := HI.out
                refine ⟨f, ?_, by omega, by omega⟩
                rw [h, HU3.out, if_neg (by omega), if_neg (by rw [rest_none (by omega)]; simp)])
              clear HI HU3
              go_wp2_with (at_builtin; go_must (refine wpList_app rfl (.tmp 83) (.tmp 87) _ rfl w.heap.size 80 i0 _ 2 8 Tryz.underlying37 hi0 hz0 hz1 hz2 rfl (by omega) A n c (l.map encR) rfl (ho1.alloc _) _ 1 1 [encR (lo, lo)] rfl rfl (Rd.newAt (by simp) rfl) (encR_ok [(lo, lo)]) (by unfold maxLen; omega) (by omega) (by simp; omega) ?_); intro A3 c3 w3 ho3 hg3 hA3; have hb3 := below_app (hB1.alloc hbs1 (.cells #[.int .i32 lo, .int .i32 lo] 80)) hg3 (by simp; omega) (fun a ha => (ho1.lt a ha).1); clear hg3)
              have Ho3 : Own w3 w.heap.size 80 2 A3 (n + 1) c3 ((l ++ [(lo, lo)]).map encR) := by rw [List.map_append]; exact ho3
              clear ho3
              go_roundw
              case rel => exact ⟨p, l ++ [(lo, lo)], A3, n + 1, c3, rfl, rfl, by omega, by omega, HF, Ho3, hb3⟩
              case measure => simp [intOf]; omega
      · obtain rfl : a = s.size := by omega
        have HF : Hid (parseP s = .ok l) := Lib.hid (by obtain ⟨f, h1, _, _⟩ := HP.out; rw [← h1, parseGo_done])
        clear HP
        go_wp2_with fail
        refine (sNorm_any A n c l _ (ho.rd (by omega)) (by simpa using ho.len) (by omega)).mono ?_
        rintro e w2 ⟨A4, n4, c4, rfl, ho2, hb2⟩
        go_wp2
        go_ret3
        exact ⟨below_step hb hb2 hbs, ParseEnd.fine HF.out (ho2.more hbs)⟩
end Go.Proofs.YtejccafolfeabaaGreatDoor

/-
  runes.Parse: the set of a spelling, or the error and its place.
-/
namespace Go.Proofs.YtejccafolfeabaaGreatDoor
open Go.RowKit

theorem assertFault (e a : Int) (W : World) : (Instr.typeAssert (.iface 146 (.agg #[.int .i64 e, .int .i64 a])) 20 146 true).run Tryz.prog W = .ok (.tuple #[.agg #[.int .i64 e, .int .i64 a], .bool true]) W := by kernel_rfl

set_option maxRecDepth 100000 in
set_option maxHeartbeats 800000 in
theorem parse_catch (n : Nat) (v0 v1 v2 : Value) (e a : Int) (older : List PanicEntry) (w : World)
    (c0 : w.cell? ⟨n, 0, none⟩ = some v0) (c1 : w.cell? ⟨n + 1, 0, none⟩ = some v1) (c2 : w.cell? ⟨n + 2, 0, none⟩ = some v2)
    (f0 : w.frozen? ⟨n, 0, none⟩ = false) (f1 : w.frozen? ⟨n + 1, 0, none⟩ = false) (f2 : w.frozen? ⟨n + 2, 0, none⟩ = false) :
    CallsD Tryz.prog 106 #[.pointer (some ⟨n, 0, none⟩), .pointer (some ⟨n + 1, 0, none⟩), .pointer (some ⟨n + 2, 0, none⟩)] (.panicking ({ v := .iface 146 (.agg #[.int .i64 e, .int .i64 a]), recovered := false } :: older)) w fun en u' w' =>
      en = .returned (.tuple #[]) ∧ u' = .panicking ({ v := .iface 146 (.agg #[.int .i64 e, .int .i64 a]), recovered := true } :: older) ∧ w' = ((((w.alloc (.cells #[.int .i64 e, .int .i64 a] 146)).setCell ⟨n, 0, none⟩ (.slice none 0 0)).setCell ⟨n + 1, 0, none⟩ (.int .i64 e)).setCell ⟨n + 2, 0, none⟩ (.int .i64 a)).drew := by
  refine callsD_of_wpS Tryz.func106 rfl fun c₀ cs hu => ?_
  apply wpS_seq
  apply wpS_region
  simp [wpOpsS, go_sem, recoverD, hu, Tryz.ntmps106, Exit.thenS]
  generalize hfr : #[Value.pointer (some ⟨n, 0, none⟩), Value.pointer (some ⟨n + 1, 0, none⟩), Value.pointer (some ⟨n + 2, 0, none⟩)] ++ _ = fr
  have hfr2 : fr = #[Value.pointer (some ⟨n, 0, none⟩), Value.pointer (some ⟨n + 1, 0, none⟩), Value.pointer (some ⟨n + 2, 0, none⟩), .iface 146 (.agg #[.int .i64 e, .int .i64 a]), undef, undef, .iface 146 (.agg #[.int .i64 e, .int .i64 a]), undef, undef, undef, undef, undef, undef, undef, undef, undef, undef, undef, undef, undef, undef] := by rw [← hfr]; rfl
  clear hfr
  subst hfr2
  refine wpS_of_wp ?_
  have Hu := Lib.hid hu
  have hta := assertFault e a
  clear hu
  go_wp2_with fail
  have k0 : (w.alloc (.cells #[.int .i64 e, .int .i64 a] 146)).cell? ⟨n, 0, none⟩ = some v0 := cell_keep c0 ((Below.refl _ _).alloc (Nat.le_refl _) _)
  have k1 : (w.alloc (.cells #[.int .i64 e, .int .i64 a] 146)).cell? ⟨n + 1, 0, none⟩ = some v1 := cell_keep c1 ((Below.refl _ _).alloc (Nat.le_refl _) _)
  have k2 : (w.alloc (.cells #[.int .i64 e, .int .i64 a] 146)).cell? ⟨n + 2, 0, none⟩ = some v2 := cell_keep c2 ((Below.refl _ _).alloc (Nat.le_refl _) _)
  have g0 : (w.alloc (.cells #[.int .i64 e, .int .i64 a] 146)).frozen? ⟨n, 0, none⟩ = false := (((Below.refl w.heap.size w).alloc (Nat.le_refl _) _).frozen (p := ⟨n, 0, none⟩) (cell_lt c0)).trans f0
  have g1 : (w.alloc (.cells #[.int .i64 e, .int .i64 a] 146)).frozen? ⟨n + 1, 0, none⟩ = false := (((Below.refl w.heap.size w).alloc (Nat.le_refl _) _).frozen (p := ⟨n + 1, 0, none⟩) (cell_lt c1)).trans f1
  have g2 : (w.alloc (.cells #[.int .i64 e, .int .i64 a] 146)).frozen? ⟨n + 2, 0, none⟩ = false := (((Below.refl w.heap.size w).alloc (Nat.le_refl _) _).frozen (p := ⟨n + 2, 0, none⟩) (cell_lt c2)).trans f2
  have x0 : (w.alloc (.cells #[.int .i64 e, .int .i64 a] 146)).cell? ⟨w.heap.size, 0, none⟩ = some (.int .i64 e) := by simp
  have x1 : (w.alloc (.cells #[.int .i64 e, .int .i64 a] 146)).cell? ⟨w.heap.size, 1, none⟩ = some (.int .i64 a) := by simp
  have hm : n + 2 < w.heap.size := cell_lt c2
  clear c0 c1 c2 f0 f1 f2 hta
  generalize hwq : w.alloc (.cells #[.int .i64 e, .int .i64 a] 146) = wq at k0 k1 k2 g0 g1 g2 x0 x1 ⊢
  have e0 : ¬ w.heap.size = n := by omega
  have e1 : ¬ w.heap.size = n + 1 := by omega
  generalize w.heap.size = m at x0 x1 hm e0 e1 ⊢
  go_region
  have hu := Hu.out
  subst hwq
  cases c₀
  simp only at hu
  simp +zetaDelta [bodyPostS, results, Tryz.results106]

set_option maxRecDepth 100000 in
set_option maxHeartbeats 800000 in
theorem parse_idle (n : Nat) (w : World) :
    CallsD Tryz.prog 106 #[.pointer (some ⟨n, 0, none⟩), .pointer (some ⟨n + 1, 0, none⟩), .pointer (some ⟨n + 2, 0, none⟩)] .returning w fun en u' w' =>
      en = .returned (.tuple #[]) ∧ u' = .returning ∧ w' = w := by
  have hnn : ∀ w, (binOp .neq 20 .nilIface .nilIface).run Tryz.prog w = .ok (.bool false) w := fun w => Lib.run_neq_nil_nil (ms := #[]) w (by kernel_rfl)
  refine callsD_of_wpS Tryz.func106 rfl fun c₀ cs hu => ?_
  apply wpS_seq
  apply wpS_region
  simp [wpOpsS, go_sem, recoverD, hu, Tryz.ntmps106, Exit.thenS]
  generalize hfr : #[Value.pointer (some ⟨n, 0, none⟩), Value.pointer (some ⟨n + 1, 0, none⟩), Value.pointer (some ⟨n + 2, 0, none⟩)] ++ _ = fr
  have hfr2 : fr = #[Value.pointer (some ⟨n, 0, none⟩), Value.pointer (some ⟨n + 1, 0, none⟩), Value.pointer (some ⟨n + 2, 0, none⟩), .nilIface, undef, undef, .nilIface, undef, undef, undef, undef, undef, undef, undef, undef, undef, undef, undef, undef, undef, undef] := by rw [← hfr]; rfl
  clear hfr
  subst hfr2
  refine wpS_of_wp ?_
  have Hu := Lib.hid hu
  clear hu
  go_wp2_with fail
  have hu := Hu.out
  cases c₀
  simp only at hu
  simp +zetaDelta [bodyPostS, hu, results, Tryz.results106]

set_option maxRecDepth 100000 in
set_option maxHeartbeats 1600000 in
theorem rParse_any (s : ByteArray) (w : World) (hT : Tabs w) (hs : s.size ≤ 1000000) :
    Calls Tryz.prog 69 #[.string s] w fun e w' => Below w.heap.size w w' ∧ ParseEnd w.heap.size (parseP s) e w' := by
  obtain ⟨i0, hi0, hz0, hz1, hz2⟩ := info_parts infoR
  have hmf : ∀ (fn : Fn) (first cap : Array Value) (w : World), (Instr.makeFunc fn first cap).run Tryz.prog w = .ok (.func fn first cap) w := fun _ _ _ _ => rfl
  go_enter_defers Tryz.func69, Tryz.ntmps69
  go_wp2
  go_step3
  go_wp2_with fail
  go_step3
  go_wp2_with fail
  have hR0 : Rdr (((((w.alloc (.cells #[.slice none 0 0] 37)).alloc (.cells #[.int .i64 0] 26)).alloc (.cells #[.int .i64 0] 3))).alloc (.cells #[.string s, .int .i64 0] 150)) (w.heap.size + 3) s 0 := by
    have := Blk.new (((w.alloc (.cells #[.slice none 0 0] 37)).alloc (.cells #[.int .i64 0] 26)).alloc (.cells #[.int .i64 0] 3)) 150 #[.string s, .int .i64 0]
    rwa [show (((w.alloc (.cells #[.slice none 0 0] 37)).alloc (.cells #[.int .i64 0] 26)).alloc (.cells #[.int .i64 0] 3)).heap.size = w.heap.size + 3 by simp] at this
  have hB0 : Blk (((((w.alloc (.cells #[.slice none 0 0] 37)).alloc (.cells #[.int .i64 0] 26)).alloc (.cells #[.int .i64 0] 3))).alloc (.cells #[.string s, .int .i64 0] 150)) w.heap.size 37 #[.slice none 0 0] := ((((Blk.new w _ _).alloc _).alloc _).alloc _)
  have hB1 : Blk (((((w.alloc (.cells #[.slice none 0 0] 37)).alloc (.cells #[.int .i64 0] 26)).alloc (.cells #[.int .i64 0] 3))).alloc (.cells #[.string s, .int .i64 0] 150)) (w.heap.size + 1) 26 #[.int .i64 0] := by
    have := ((Blk.new (w.alloc (.cells #[.slice none 0 0] 37)) 26 #[.int .i64 0]).alloc (.cells #[.int .i64 0] 3)).alloc (.cells #[.string s, .int .i64 0] 150)
    simpa using this
  have hB2 : Blk (((((w.alloc (.cells #[.slice none 0 0] 37)).alloc (.cells #[.int .i64 0] 26)).alloc (.cells #[.int .i64 0] 3))).alloc (.cells #[.string s, .int .i64 0] 150)) (w.heap.size + 2) 3 #[.int .i64 0] := by
    have := (Blk.new ((w.alloc (.cells #[.slice none 0 0] 37)).alloc (.cells #[.int .i64 0] 26)) 3 #[.int .i64 0]).alloc (.cells #[.string s, .int .i64 0] 150)
    simpa using this
  have hbw : Below w.heap.size w (((((w.alloc (.cells #[.slice none 0 0] 37)).alloc (.cells #[.int .i64 0] 26)).alloc (.cells #[.int .i64 0] 3))).alloc (.cells #[.string s, .int .i64 0] 150)) := by
    refine ((((Below.refl _ _).alloc (Nat.le_refl _) _).alloc ?_ _).alloc ?_ _).alloc ?_ _ <;> simp <;> omega
  generalize hbx : (((((w.alloc (.cells #[.slice none 0 0] 37)).alloc (.cells #[.int .i64 0] 26)).alloc (.cells #[.int .i64 0] 3))).alloc (.cells #[.string s, .int .i64 0] 150)) = w0 at hR0 hB0 hB1 hB2 hbw ⊢
  clear hbx
  go_loopw [15] (fun _ wr => ∃ (f a : Nat) (l : List (Int × Int)) (A : Option Addr) (n c : Nat), Blk wr w.heap.size 37 #[.slice A n c] ∧ Blk wr (w.heap.size + 1) 26 #[.int .i64 0] ∧ Blk wr (w.heap.size + 2) 3 #[.int .i64 0] ∧
      Rdr wr (w.heap.size + 3) s a ∧ Own wr (w.heap.size + 4) 80 2 A n c (l.map encR) ∧ n ≤ a ∧ a ≤ s.size ∧ s.size < a + f ∧ Hid (parseGo s f a l = parseP s) ∧ Below w.heap.size w wr) (fun _ wr => s.size - atOf wr (w.heap.size + 3))
  case atStart => exact ⟨s.size + 1, 0, [], none, 0, 0, hB0, hB1, hB2, hR0, Own.nil_ _ _ _ _, by omega, by omega, by omega, rfl, hbw⟩
  case round =>
    obtain ⟨f, a, l, A, n, c, b0, b1, b2, hr, ho, hna, has, hf, HP, hb⟩ := hrel
    have hlt0 : w.heap.size + 1 + 1 + 1 < wr.heap.size := Blk.lt hr
    have c0 : wr.cell? ⟨w.heap.size + 1 + 1 + 1, 0, none⟩ = some (.string s) := hr.c0
    have c1 : wr.cell? ⟨w.heap.size + 1 + 1 + 1, 1, none⟩ = some (.int .i64 a) := hr.c1
    have f1 : wr.frozen? ⟨w.heap.size + 1 + 1 + 1, 1, none⟩ = false := hr.f1
    have x0 : wr.cell? ⟨w.heap.size, 0, none⟩ = some (.slice A n c) := b0.cell 0
    have y0 : wr.frozen? ⟨w.heap.size, 0, none⟩ = false := b0.frozen 0
    have Hat := Lib.hid hr.atOf
    by_cases hlt : a < s.size
    · obtain ⟨f, rfl⟩ : ∃ f', f = f' + 1 := ⟨f - 1, by omega⟩
      have HU : Hid (parseGo s (f + 1) a l = if s[a]'hlt = 32 then parseGo s f (a + 1) l else
          match itemP s a with
          | .error e => .error e
          | .ok (x, q) => parseGo s f q (l ++ [x])) := Lib.hid (by rw [parseGo, rest_head hlt]; rfl)
      by_cases h32 : s[a]'hlt = 32
      · have hq : (((s[a]'hlt).toNat : Int) == 32) = true := by rw [h32]; rfl
        have HP2 : Hid (parseGo s f (a + 1) l = parseP s) := Lib.hid (by rw [← HP.out, HU.out, if_pos h32])
        clear h32 HU HP
        go_wp2
        have hr2 : Rdr (wr.setCell ⟨w.heap.size + 3, 1, none⟩ (.int .i64 (a + 1 : Nat))) (w.heap.size + 3) s (a + 1) := Rdr.set hr (a + 1)
        refine ⟨⟨f, a + 1, l, A, n, c, b0.far (by simp <;> omega) _, b1.far (by simp <;> omega) _, b2.far (by simp <;> omega) _, hr2, ho.setCell (fun g hg => by have := (ho.lt g hg).1; simp; omega) _, by omega, by omega, by omega, HP2, hb.setCell (by simp; omega) _⟩, ?_⟩
        show s.size - atOf (wr.setCell ⟨w.heap.size + 3, 1, none⟩ (.int .i64 (a + 1 : Nat))) (w.heap.size + 3) < s.size - atOf wr (w.heap.size + 3)
        rw [hr2.atOf, Hat.out]; omega
      · have hq : (((s[a]'hlt).toNat : Int) == 32) = false := by
          have := byte_ne (n := 32) h32
          simpa using this
        have HP2 : Hid (parseP s = match itemP s a with
          | .error e => .error e
          | .ok (x, q) => parseGo s f q (l ++ [x])) := Lib.hid (by rw [← HP.out, HU.out, if_neg h32])
        clear h32 HU HP
        cases hI : itemP s a with
        | error x =>
          rw [hI] at HP2
          have HP := Lib.hid hI
          clear hI
          go_wp2_with fail
          have hTr : Tabs wr := hT.below hb
          (first | go_region_dies | fail)
          all_goals (refine (item_any s a (w.heap.size + 3) wr.drew hTr hr has hs).mono ?_; rw [HP.out]; rintro e w2 ⟨hg, rfl⟩)
          all_goals (dsimp only [faultEnd]; go_wp2)
          all_goals refine leaves_cons (f := 106) (args := #[.pointer (some ⟨w.heap.size, 0, none⟩), .pointer (some ⟨w.heap.size + 1, 0, none⟩), .pointer (some ⟨w.heap.size + 2, 0, none⟩)]) (by simp) (by simp [go_sem]) ?_
          all_goals
            have b02 : Blk w2 w.heap.size 37 #[.slice A n c] := Blk.grown (w := wr.drew) b0 hg (by simp)
            have b12 : Blk w2 (w.heap.size + 1) 26 #[.int .i64 0] := Blk.grown (w := wr.drew) b1 hg (by simp)
            have b22 : Blk w2 (w.heap.size + 2) 3 #[.int .i64 0] := Blk.grown (w := wr.drew) b2 hg (by simp)
            have hgs : wr.heap.size ≤ w2.heap.size := hg.size
            refine (parse_catch w.heap.size _ _ _ x.1 x.2 [] w2 (b02.cell 0) (b12.cell 0) (b22.cell 0) (b02.frozen 0) (b12.frozen 0) (b22.frozen 0)).mono ?_
            have k0 := (b02.alloc (.cells #[.int .i64 x.1, .int .i64 x.2] 146)).cell 0
            have k1 := (b12.alloc (.cells #[.int .i64 x.1, .int .i64 x.2] 146)).cell 0
            have k2 := (b22.alloc (.cells #[.int .i64 x.1, .int .i64 x.2] 146)).cell 0
            have hbw2 : Below w.heap.size w (w2.alloc (.cells #[.int .i64 x.1, .int .i64 x.2] 146)) := (below_only (only_trans (a := w) (b := wr) (row := some (w.heap.size + 3)) ⟨hb.os, hb.tape, hb.output, hb.size, fun i hi _ => hb.block i hi⟩ (only_trans (only_drew (only_refl wr _)) hg)) (Nat.le_refl _) (by omega)).alloc (by omega) _
            rintro en u' w3 ⟨rfl, rfl, rfl⟩
            generalize w2.alloc (.cells #[.int .i64 x.1, .int .i64 x.2] 146) = w4 at k0 k1 k2 hbw2 ⊢
            have hend : Below w.heap.size w (((w4.setCell ⟨w.heap.size, 0, none⟩ (.slice none 0 0)).setCell ⟨w.heap.size + 1, 0, none⟩ (.int .i64 x.1)).setCell ⟨w.heap.size + 2, 0, none⟩ (.int .i64 x.2)).drew := below_drewN (((hbw2.setCell (p := ⟨w.heap.size, 0, none⟩) (Nat.le_refl _) _).setCell (p := ⟨w.heap.size + 1, 0, none⟩) (Nat.le_add_right _ 1) _).setCell (p := ⟨w.heap.size + 2, 0, none⟩) (Nat.le_add_right _ 2) _) 1
            have hpe := ParseEnd.err (base := w.heap.size) (w' := (((w4.setCell ⟨w.heap.size, 0, none⟩ (.slice none 0 0)).setCell ⟨w.heap.size + 1, 0, none⟩ (.int .i64 x.1)).setCell ⟨w.heap.size + 2, 0, none⟩ (.int .i64 x.2)).drew) HP2.out
            simp [Leaves, settle, results, Tryz.results69, go_sem, k0, k1, k2]
            exact ⟨hend, hpe⟩

        | ok y =>
          obtain ⟨⟨lo, hi⟩, q⟩ := y
          rw [hI] at HP2
          have HP := Lib.hid hI
          clear hI
          have hTr : Tabs wr := hT.below hb
          go_wp2_with fail
          refine wp_region_noPanic ?_
          go_region_law (first
              | (go_simp; go_at_call 107; refine (item_any s a (w.heap.size + 3) wr.drew hTr hr has hs).mono ?_; rw [HP.out]; rintro e w2 ⟨hg, rfl, hr2⟩; have hgs : wr.heap.size ≤ w2.heap.size := hg.size; have b02 : Blk w2 w.heap.size 37 #[.slice A n c] := Blk.grown (w := wr.drew) b0 hg (by simp); have x2 := b02.cell 0; have x2a := (b02.alloc (.cells #[.int .i32 lo, .int .i32 hi] 80)).cell 0; have ho2 := Own.grown (w := wr.drew) ho hg (fun g hgA => by have := (ho.lt g hgA).1; simp; omega))
              | (refine step_app rfl (.tmp 10) (.tmp 13) _ rfl (w.heap.size + 4) 80 i0 _ 2 8 Tryz.underlying37 hi0 hz0 hz1 hz2 rfl (by omega) A n c (l.map encR) rfl (ho2.alloc _) _ 1 1 [encR (lo, hi)] rfl rfl (Rd.newAt (by simp) rfl) (encR_ok [(lo, hi)]) (by unfold maxLen; omega) (by omega) (by simp; omega) ?_; intro A3 c3 w3 ho3 hg3 hA3; have b03 : Blk w3 w.heap.size 37 #[.slice A n c] := (b02.alloc _).grown hg3 (fun e => by cases A with | none => simp at e | some g => have := (ho.lt g rfl).1; simp at e; omega); have x3 := b03.cell 0; have y3 := b03.frozen 0))
          all_goals
            obtain ⟨hq1, hq2⟩ := itemP_ok HP.out
            refine NoPanic.normal ?_
            have hfar : ∀ k, k < 4 → some (w.heap.size + k) ≠ A.map (·.block) := fun k hk e => by cases A with | none => simp at e | some g => have := (ho.lt g rfl).1; simp at e; omega
            have b13 := ((Blk.grown (w := wr.drew) b1 hg (by simp)).alloc (.cells #[.int .i32 lo, .int .i32 hi] 80)).grown hg3 (hfar 1 (by omega))
            have b23 := ((Blk.grown (w := wr.drew) b2 hg (by simp)).alloc (.cells #[.int .i32 lo, .int .i32 hi] 80)).grown hg3 (hfar 2 (by omega))
            have hr3 := (Blk.alloc hr2 (.cells #[.int .i32 lo, .int .i32 hi] 80)).grown hg3 (hfar 3 (by omega))
            go_wp2
            have hr4 := Blk.far hr3 (p := ⟨w.heap.size, 0, none⟩) (by simp) (.slice A3 (n + 1) c3)
            have b04 := b03.set_ 0 (.slice A3 (n + 1) c3)
            have hsz3 := hg3.size
            refine ⟨⟨f, q, l ++ [(lo, hi)], A3, n + 1, c3, b04, b13.far (by simp) _, b23.far (by simp) _, hr4, ?_, by omega, hq2, by omega, HP2.out.symm, ?_⟩, ?_⟩
            · rw [List.map_append]
              exact ho3.setCell (fun g hgA => by have := (ho3.lt g hgA).1; show g.block ≠ w.heap.size; omega) _
            · have h1 : w.grownBy w2 (some (w.heap.size + 3)) := only_trans (a := w) (b := wr) ⟨hb.os, hb.tape, hb.output, hb.size, fun i hi _ => hb.block i hi⟩ (only_trans (only_drew (only_refl wr _)) hg)
              exact (below_app ((below_only h1 (Nat.le_refl _) (by omega)).alloc (by omega) (.cells #[.int .i32 lo, .int .i32 hi] 80)) hg3 (by simp; omega) (fun g hgA => by have := (ho.lt g hgA).1; omega)).setCell (p := ⟨w.heap.size, 0, none⟩) (Nat.le_refl _) _
            · have hr5 : Rdr (w3.setCell ⟨w.heap.size, 0, none⟩ (.slice A3 (n + 1) c3)) (w.heap.size + 3) s q := hr4
              rw [hr5.atOf, Hat.out]; omega
    · obtain rfl : a = s.size := by omega
      have HP2 : Hid (parseP s = .ok l) := Lib.hid (by
        rw [← HP.out]
        cases f with
        | zero => rfl
        | succ f => rw [parseGo, rest_none (Nat.le_refl _)]; rfl)
      clear HP
      go_wp2_with fail
      refine (rNorm_any A n c l _ (ho.rd (by omega)) (by simpa using ho.len) (by omega)).mono ?_
      rintro e w2 ⟨A4, n4, c4, rfl, ho2, hb2⟩
      have b02 : Blk w2 w.heap.size 37 #[.slice A n c] := b0.below hb2
      have b12 : Blk w2 (w.heap.size + 1) 26 #[.int .i64 0] := b1.below hb2
      have b22 : Blk w2 (w.heap.size + 2) 3 #[.int .i64 0] := b2.below hb2
      have k0 := b02.cell 0
      have k1 : w2.cell? ⟨w.heap.size + 1, 0, none⟩ = _ := b12.cell 0
      have k2 : w2.cell? ⟨w.heap.size + 1 + 1, 0, none⟩ = _ := b22.cell 0
      have g0 := b02.frozen 0
      have g1 : w2.frozen? ⟨w.heap.size + 1, 0, none⟩ = _ := b12.frozen 0
      have g2 : w2.frozen? ⟨w.heap.size + 1 + 1, 0, none⟩ = _ := b22.frozen 0
      have hbs := hb2.size
      go_wp2
      have hb3 : Below w.heap.size w (((w2.setCell ⟨w.heap.size, 0, none⟩ (.slice A4 n4 c4)).setCell ⟨w.heap.size + 1, 0, none⟩ (.int .i64 0)).setCell ⟨w.heap.size + 1 + 1, 0, none⟩ (.int .i64 0)) :=
        (((below_step hb hb2 hb.size).setCell (p := ⟨w.heap.size, 0, none⟩) (Nat.le_refl _) _).setCell (p := ⟨w.heap.size + 1, 0, none⟩) (Nat.le_add_right _ 1) _).setCell (p := ⟨w.heap.size + 1 + 1, 0, none⟩) (Nat.le_add_right _ 2) _
      have r0 := (((b02.set_ 0 (.slice A4 n4 c4)).far (p := ⟨w.heap.size + 1, 0, none⟩) (by simp) (.int .i64 0)).far (p := ⟨w.heap.size + 1 + 1, 0, none⟩) (by simp; omega) (.int .i64 0)).cell 0
      have r1 := (((b12.far (p := ⟨w.heap.size, 0, none⟩) (by simp) (.slice A4 n4 c4)).set_ 0 (.int .i64 0)).far (p := ⟨w.heap.size + 1 + 1, 0, none⟩) (by simp) (.int .i64 0)).cell 0
      have r2 : World.cell? (((w2.setCell ⟨w.heap.size, 0, none⟩ (.slice A4 n4 c4)).setCell ⟨w.heap.size + 1, 0, none⟩ (.int .i64 0)).setCell ⟨w.heap.size + 1 + 1, 0, none⟩ (.int .i64 0)) ⟨w.heap.size + 1 + 1, 0, none⟩ = _ := (((b22.far (p := ⟨w.heap.size, 0, none⟩) (by simp <;> omega) (.slice A4 n4 c4)).far (p := ⟨w.heap.size + 1, 0, none⟩) (by simp) (.int .i64 0)).set_ 0 (.int .i64 0)).cell 0
      have ho3 : Own (((w2.setCell ⟨w.heap.size, 0, none⟩ (.slice A4 n4 c4)).setCell ⟨w.heap.size + 1, 0, none⟩ (.int .i64 0)).setCell ⟨w.heap.size + 1 + 1, 0, none⟩ (.int .i64 0)) wr.heap.size 80 2 A4 n4 c4 ((normR l).map encR) :=
        ((ho2.setCell (fun g hg => by have := (ho2.lt g hg).1; show g.block ≠ w.heap.size; omega) _).setCell (fun g hg => by have := (ho2.lt g hg).1; show g.block ≠ w.heap.size + 1; omega) _).setCell (fun g hg => by have := (ho2.lt g hg).1; show g.block ≠ w.heap.size + 1 + 1; omega) _
      clear ho2 b02 b12 b22 k0 k1 k2 g0 g1 g2
      generalize (((w2.setCell ⟨w.heap.size, 0, none⟩ (.slice A4 n4 c4)).setCell ⟨w.heap.size + 1, 0, none⟩ (.int .i64 0)).setCell ⟨w.heap.size + 1 + 1, 0, none⟩ (.int .i64 0)) = w4 at hb3 r0 r1 r2 ho3 ⊢
      rw [Exit.noGoto_ret]
      refine leaves_cons (f := 106) (args := #[.pointer (some ⟨w.heap.size, 0, none⟩), .pointer (some ⟨w.heap.size + 1, 0, none⟩), .pointer (some ⟨w.heap.size + 2, 0, none⟩)]) (by simp) (by simp [go_sem]) ?_
      refine (parse_idle w.heap.size _).mono ?_
      rintro en u' w5 ⟨rfl, rfl, rfl⟩
      have hpe := ParseEnd.fine HP2.out (ho3.more hb.size)
      simp at r0 r1 r2
      simp [Leaves, settle, results, Tryz.results69, go_sem, r0, r1, r2]
      exact ⟨hb3, hpe⟩
end Go.Proofs.YtejccafolfeabaaGreatDoor

/-
  slices.Equal, IndexFunc, ContainsFunc as runes calls them; runes.Is, Has.
-/
namespace Go.Proofs.YtejccafolfeabaaGreatDoor
open Go.RowKit
attribute [local go_sem ↓] neqR eqlR

theorem memR_take_succ {l : List (Int × Int)} {k : Nat} {x : Int × Int} (h : l[k]? = some x) (r : Int) : memR (l.take (k + 1)) r ↔ memR (l.take k) r ∨ (x.1 ≤ r ∧ r ≤ x.2) := by
  rw [List.take_add_one, h, memR_append, Option.toList_some, memR_cons]; simp [memR_nil]

end Go.Proofs.YtejccafolfeabaaGreatDoor

/-
  slices.Grow, Concat as runes calls them; runes.Or, Not, And, Minus.
-/
namespace Go.Proofs.YtejccafolfeabaaGreatDoor
open Go.RowKit

theorem lGrow_any (s : Int) (w : World) (h0 : 0 ≤ s) (hs : s ≤ 4000000) :
    Calls Tryz.prog 131 #[.slice none 0 0, .int .i64 s] w fun e w' => ∃ A c, e = .returned (.slice A 0 c) ∧ Own w' w.heap.size 80 2 A 0 c [] ∧ RowKit.Below w.heap.size w w' := by
  obtain ⟨n, rfl⟩ := Int.eq_ofNat_of_zero_le h0
  obtain ⟨i0, hi0, hz0, hz1, hz2⟩ := info_parts infoR
  rcases Nat.eq_zero_or_pos n with hn | hn
  · subst hn
    have h := Any8.slices_Grow_room Tryz.growR none 0 0 0 w (by omega) (by omega) (by omega) (by omega)
    change Calls Tryz.prog 131 _ _ _ at h
    refine h.mono ?_
    rintro e w' ⟨rfl, rfl⟩
    exact ⟨none, 0, rfl, Own.nil_ _ _ _ _, RowKit.Below.refl _ _⟩
  · have h := Any8.slices_Grow_grow Tryz.growR i0 _ hi0 hz0 (by omega) none 0 0 n [] w (by omega) (by omega) (by rw [hz2]; omega) (by omega) (by simp) (fun _ => rfl) (fun a h => by cases h)
    change Calls Tryz.prog 131 _ _ _ at h
    refine h.mono ?_
    rintro e w' ⟨rfl, rfl⟩
    have hge := grownCap_ge w (0 + n) 0 80
    refine ⟨_, _, rfl, ⟨rfl, by simp, by simp, .inr ⟨w.heap.size, _, _, rfl, Nat.le_refl _, heap_alloc_new _ _, Nat.zero_le _, grownCap_le_maxLen _ _ _ _ (by unfold maxLen; omega), ?_, by simp⟩⟩, ((RowKit.Below.refl _ _).drew).alloc (Nat.le_refl _) _⟩
    simp [size_zeroCells, Value.cells]
    rw [Nat.zero_add] at hge
    change n ≤ grownCap w n 0 (Tryz.growR_ren.t 25) at hge
    generalize grownCap w n 0 (Tryz.growR_ren.t 25) = q at *
    omega

set_option maxRecDepth 100000 in
set_option maxHeartbeats 800000 in
theorem lConcat_any (A A2 : Option Addr) (b n c n2 c2 : Nat) (x y : List (Int × Int)) (w : World) (hA : Rd w 2 A (x.map encR)) (hB : Rd w 2 A2 (y.map encR)) (hx : x.length = n) (hy : y.length = n2) (hn : n + n2 ≤ 4000000)
    (h0 : w.cell? ⟨b, 0, none⟩ = some (.slice A n c)) (h1 : w.cell? ⟨b, 1, none⟩ = some (.slice A2 n2 c2)) :
    Calls Tryz.prog 109 #[.slice (some ⟨b, 0, none⟩) 2 2] w fun e w' => ∃ A' c', e = .returned (.slice A' (n + n2) c') ∧ Own w' w.heap.size 80 2 A' (n + n2) c' ((x ++ y).map encR) ∧ RowKit.Below w.heap.size w w' := by
  obtain ⟨i0, hi0, hz0, hz1, hz2⟩ := info_parts infoR
  have Hx := Lib.hid hx
  have Hy := Lib.hid hy
  clear hx hy
  go_enter Tryz.func109, Tryz.ntmps109
  go_wp2
  go_loop [3, 11] (fun v i => (v = .int .i64 0 ∧ i = .int .i64 0) ∨ (v = .int .i64 n ∧ i = .int .i64 1) ∨ (v = .int .i64 (n + n2) ∧ i = .int .i64 2)) (fun _ i => 2 - (intOf i).toNat)
  case atStart => exact .inl ⟨rfl, rfl⟩
  case round =>
    rcases hrel with ⟨rfl, rfl⟩ | ⟨rfl, rfl⟩ | ⟨rfl, rfl⟩
    · go_wp2
      go_round
      case rel => exact .inr (.inl ⟨rfl, rfl⟩)
      case measure => simp [intOf]
    · go_wp2
      go_round
      case rel => exact .inr (.inr ⟨rfl, rfl⟩)
      case measure => simp [intOf]
    · go_wp2_with fail
      refine (lGrow_any (n + n2) w (by omega) (by omega)).mono ?_
      rintro e w1 ⟨A3, c3, rfl, ho1, hb1⟩
      have g0 := cell_keep h0 hb1
      have g1 := cell_keep h1 hb1
      have hA' := hA.below hb1
      have hB' := hB.below hb1
      have ho1 : Own w1 w.heap.size 80 2 A3 0 c3 [] := ho1
      go_wp2
      go_loopw [6, 27] (fun v i wr => ∃ (A4 : Option Addr) (n4 c4 : Nat) (o : List (Int × Int)), v = .slice A4 n4 c4 ∧ Own wr w.heap.size 80 2 A4 n4 c4 (o.map encR) ∧ RowKit.Below w.heap.size w wr ∧
          ((i = .int .i64 0 ∧ n4 = 0 ∧ Hid (o = [])) ∨ (i = .int .i64 1 ∧ n4 = n ∧ Hid (o = x)) ∨ (i = .int .i64 2 ∧ n4 = n + n2 ∧ Hid (o = x ++ y)))) (fun _ i _ => 2 - (intOf i).toNat)
      case atStart => exact ⟨A3, 0, c3, [], rfl, ho1, hb1, .inl ⟨rfl, rfl, rfl⟩⟩
      case round =>
        clear ho1 hb1 g0 g1 hA' hB'
        obtain ⟨A4, n4, c4, o, rfl, ho, hb, hrel⟩ := hrel
        have g0 := cell_keep h0 hb
        have g1 := cell_keep h1 hb
        have hA' := hA.below hb
        have hB' := hB.below hb
        rcases hrel with ⟨rfl, rfl, HO⟩ | ⟨rfl, rfl, HO⟩ | ⟨rfl, rfl, HO⟩
        · go_wp2_with (at_builtin; go_must (refine wpList_app rfl (.tmp 31) (.tmp 32) _ rfl w.heap.size 80 i0 _ 2 8 Tryz.underlying37 hi0 hz0 hz1 hz2 rfl (by omega) A4 0 c4 (o.map encR) rfl ho A n c (x.map encR) rfl (by simpa using Hx.out) hA' (encR_ok x) (by unfold maxLen; omega) (by omega) hb.size ?_); intro A5 c5 w5 ho5 hg5 hA5; have hb5 := below_app hb hg5 hb.size (fun a ha => (ho.lt a ha).1); clear hg5)
          have Ho5 : Own w5 w.heap.size 80 2 A5 n c5 (x.map encR) := by have := HO.out; subst this; simpa using ho5
          clear ho5
          go_roundw
          case rel => exact ⟨A5, n, c5, x, rfl, Ho5, hb5, .inr (.inl ⟨rfl, rfl, rfl⟩)⟩
          case measure => simp [intOf]
        · go_wp2_with (at_builtin; go_must (refine wpList_app rfl (.tmp 31) (.tmp 32) _ rfl w.heap.size 80 i0 _ 2 8 Tryz.underlying37 hi0 hz0 hz1 hz2 rfl (by omega) A4 n4 c4 (o.map encR) rfl ho A2 n2 c2 (y.map encR) rfl (by simpa using Hy.out) hB' (encR_ok y) (by unfold maxLen; omega) (by omega) hb.size ?_); intro A5 c5 w5 ho5 hg5 hA5; have hb5 := below_app hb hg5 hb.size (fun a ha => (ho.lt a ha).1); clear hg5)
          have Ho5 : Own w5 w.heap.size 80 2 A5 (n4 + n2) c5 ((x ++ y).map encR) := by have := HO.out; subst this; simpa using ho5
          clear ho5
          go_roundw
          case rel => exact ⟨A5, n4 + n2, c5, x ++ y, rfl, Ho5, hb5, .inr (.inr ⟨rfl, rfl, rfl⟩)⟩
          case measure => simp [intOf]
        · go_wp2
          go_ret
          exact ⟨A4, c4, rfl, by have := HO.out; subst this; exact ho, hb⟩

set_option maxHeartbeats 400000 in
theorem rOr_any (A A2 : Option Addr) (n c n2 c2 : Nat) (a b : List (Int × Int)) (w : World) (hA : Rd w 2 A (a.map encR)) (hB : Rd w 2 A2 (b.map encR)) (ha : a.length = n) (hb : b.length = n2) (hn : n + n2 ≤ 4000000) :
    Calls Tryz.prog 73 #[.slice A n c, .slice A2 n2 c2] w fun e w' => ∃ A' n' c', e = .returned (.slice A' n' c') ∧ Own w' w.heap.size 80 2 A' n' c' ((orR a b).map encR) ∧ RowKit.Below w.heap.size w w' := by
  have Ha := Lib.hid ha
  have Hb := Lib.hid hb
  clear ha hb
  go_enter Tryz.func73, Tryz.ntmps73
  go_wp2_with fail
  refine (lConcat_any A A2 w.heap.size n c n2 c2 a b _ (hA.alloc _) (hB.alloc _) Ha.out Hb.out hn (by simp) (by simp)).mono ?_
  rintro e w1 ⟨A3, c3, rfl, ho1, hb1⟩
  have hb1' : RowKit.Below w.heap.size w w1 := below_two ((RowKit.Below.refl _ _).alloc (Nat.le_refl _) _) hb1
  have hrd := ho1.rd (by omega)
  clear hb1
  go_wp2_with fail
  refine (rNorm_any A3 (n + n2) c3 (a ++ b) _ hrd (by rw [List.length_append, Ha.out, Hb.out]) hn).mono ?_
  rintro e w2 ⟨A4, n4, c4, rfl, ho2, hb2⟩
  go_wp2
  go_ret
  exact ⟨_, _, _, rfl, ho2.more hb1'.size, below_two hb1' hb2⟩

set_option maxHeartbeats 400000 in
theorem rNot_any (A : Option Addr) (n c : Nat) (l : List (Int × Int)) (w : World) (hA : Rd w 2 A (l.map encR)) (hl : l.length = n) (hn : n ≤ 4000000) :
    Calls Tryz.prog 76 #[.slice A n c] w fun e w' => ∃ A' n' c', e = .returned (.slice A' n' c') ∧ Own w' w.heap.size 80 2 A' n' c' ((notR l).map encR) ∧ RowKit.Below w.heap.size w w' := by
  obtain ⟨i0, hi0, hz0, hz1, hz2⟩ := info_parts infoR
  have Hl := Lib.hid hl
  clear hl
  have HNF := Lib.hid (normR_NF l)
  go_enter Tryz.func76, Tryz.ntmps76
  go_wp2_with (go_at_call 59; go_must (refine (rNorm_any A n c l _ hA Hl.out hn).mono ?_); rintro e w1 ⟨A1, n1, c1, rfl, ho1, hb1⟩)
  have hn1 := own_nf_len ho1 HNF.out
  have hrd := ho1.rd (by omega)
  have Hn1 : Hid ((normR l).length = n1) := Lib.hid (by simpa using ho1.len)
  have hbs1 := hb1.size
  clear ho1
  go_loopw [3, 4, 10] (fun v x i wr => ∃ (k : Nat) (A2 : Option Addr) (n2 c2 : Nat) (o : List (Int × Int)) (next : Int), k ≤ n1 ∧ n2 ≤ k ∧ v = .slice A2 n2 c2 ∧ x = .int .i32 next ∧ i = .int .i64 k ∧ 0 ≤ next ∧ next ≤ 1114112 ∧
      Own wr w1.heap.size 80 2 A2 n2 c2 (o.map encR) ∧ Hid (o ++ notGo next ((normR l).drop k) = notR l) ∧ RowKit.Below w1.heap.size w1 wr) (fun _ _ i _ => n1 - (intOf i).toNat)
  case atStart => exact ⟨0, none, 0, 0, [], 0, by omega, by omega, rfl, rfl, rfl, by omega, by omega, Own.nil_ _ _ _ _, rfl, RowKit.Below.refl _ _⟩
  case round =>
    obtain ⟨k, A2, n2, c2, o, next, hk, hn2, rfl, rfl, rfl, hx0, hx1, ho, HO, hb⟩ := hrel
    have hbs := hb.size
    by_cases hlt : k < n1
    · obtain ⟨b, off, lo, hi, rfl, Hx, hc1, hc2⟩ := hrd.atR (k := k) (by have := Hn1.out; omega)
      have hr1 := cell_keep hc1 hb
      have hr2 := cell_keep hc2 hb
      obtain ⟨hb0, hb1', hb2⟩ : 0 ≤ lo ∧ lo ≤ hi ∧ hi ≤ 1114111 := by
        have hm := List.mem_of_getElem? Hx.out
        have := HNF.out.2 _ hm; have := Nf_le HNF.out.1 _ hm; simp only at *; omega
      have HD := Lib.hid (drop_cons_of Hx.out)
      have hbox := hb.alloc hbs (.cells #[.int .i32 lo, .int .i32 hi] 80)
      by_cases hc : next < lo
      · go_wp2_with (at_builtin; go_must (refine wpList_app rfl (.tmp 18) (.tmp 24) _ rfl w1.heap.size 80 i0 _ 2 8 Tryz.underlying37 hi0 hz0 hz1 hz2 rfl (by omega) A2 n2 c2 (o.map encR) rfl ((ho.alloc _).alloc _) _ 1 1 [encR (next, lo - 1)] rfl rfl (Rd.newAt (by simp) rfl) (encR_ok [(next, lo - 1)]) (by unfold maxLen; omega) (by omega) (by simp; omega) ?_); intro A3 c3 w3 ho3 hg3 hA3; have hb3 := below_app (hbox.alloc (by simp; omega) (.cells #[.int .i32 next, .int .i32 (lo - 1)] 80)) hg3 (by simp; omega) (fun a ha => (ho.lt a ha).1); have h3 : w3.cell? ⟨wr.heap.size, 1, none⟩ = some (.int .i32 hi) := (hg3.cell (by simp [World.cell?_alloc_past]) (fun e => by cases A2 with | none => simp at e | some a => have := (ho.lt a rfl).2; simp at e; omega)); clear hg3)
        have Ho3 : Own w3 w1.heap.size 80 2 A3 (n2 + 1) c3 ((o ++ [(next, lo - 1)]).map encR) := by rw [List.map_append]; exact ho3
        clear ho3
        go_roundw
        case rel => exact ⟨k + 1, A3, n2 + 1, c3, o ++ [(next, lo - 1)], hi + 1, by omega, by omega, rfl, rfl, by go_num, by omega, by omega, Ho3, Lib.hid (by rw [← HO.out, HD.out, notGo_cons, if_pos hc, List.append_assoc]), hb3⟩
        case measure => simp [intOf]; omega
      · have hge : lo ≤ next := by omega
        go_wp2
        go_roundw
        case rel => exact ⟨k + 1, A2, n2, c2, o, hi + 1, by omega, by omega, rfl, rfl, by go_num, by omega, by omega, ho.alloc _, Lib.hid (by rw [← HO.out, HD.out, notGo_cons, if_neg hc, List.nil_append]), hbox⟩
        case measure => simp [intOf]; omega
    · have Hdr : Hid ((normR l).drop k = []) := Lib.hid (List.drop_of_length_le (by have := Hn1.out; omega))
      by_cases hc : next ≤ 1114111
      · go_wp2_with (at_builtin; go_must (refine wpList_app rfl (.tmp 32) (.tmp 35) _ rfl w1.heap.size 80 i0 _ 2 8 Tryz.underlying37 hi0 hz0 hz1 hz2 rfl (by omega) A2 n2 c2 (o.map encR) rfl (ho.alloc _) _ 1 1 [encR (next, 1114111)] rfl rfl (Rd.newAt (by simp) rfl) (encR_ok [(next, 1114111)]) (by unfold maxLen; omega) (by omega) (by simp; omega) ?_); intro A3 c3 w3 ho3 hg3 hA3; have hb3 := below_app (hb.alloc hbs (.cells #[.int .i32 next, .int .i32 1114111] 80)) hg3 (by simp; omega) (fun a ha => (ho.lt a ha).1); clear hg3)
        have Ho3 : Own w3 w1.heap.size 80 2 A3 (n2 + 1) c3 ((o ++ [(next, 1114111)]).map encR) := by rw [List.map_append]; exact ho3
        clear ho3
        go_ret
        exact ⟨_, _, _, rfl, by have := HO.out; rw [Hdr.out, notGo_nil, if_pos hc] at this; rw [← this]; exact Ho3.more hbs1, below_step hb1 hb3 hbs1⟩
      · obtain rfl : next = 1114112 := by omega
        have HE : Hid (o = notR l) := Lib.hid (by have := HO.out; rw [Hdr.out, notGo_nil, if_neg hc, List.append_nil] at this; exact this)
        clear hc hx1 hx0
        go_wp2
        go_ret
        exact ⟨_, _, _, rfl, by rw [← HE.out]; exact ho.more hbs1, below_step hb1 hb hbs1⟩

end Go.Proofs.YtejccafolfeabaaGreatDoor

/-
  PLAIN: the library's words on parting and replacing, said of lines and tabs. No walk.
-/
namespace Go.Proofs.YtejccafolfeabaaGreatDoor

theorem indexByte_at {c : UInt8} (r : List UInt8) : ∀ (a : List UInt8), c ∉ a → Lib.indexByte (a ++ c :: r) c = a.length
  | [], _ => by rw [List.nil_append, Lib.indexByte, if_pos (by simp)]; rfl
  | b :: a, h => by
    have ih := indexByte_at r a (fun hm => h (List.mem_cons_of_mem _ hm))
    have hb : ¬ (b == c) = true := fun e => h (by rw [beq_iff_eq.1 e]; exact List.mem_cons_self)
    rw [List.cons_append, Lib.indexByte, ih, if_neg hb, if_neg (by simp)]
    simp
theorem splitL_no : ∀ {x : List UInt8}, (∀ c ∈ x, c ≠ 10) → splitL x = [x]
  | [], _ => rfl
  | c :: x, h => by
    show (if c = 10 then _ else _) = _
    rw [if_neg (h c (by simp)), splitL_no (fun d hd => h d (by simp [hd]))]
theorem splitK_lines : ∀ (k : Nat) (s : List UInt8), s.count 10 = k → Lib.splitK [10] 0 k s = splitL s
  | 0, s, h => by
    rw [splitL_no (fun c hc e => by subst e; exact absurd hc (List.count_eq_zero.1 h))]; rfl
  | k + 1, s, h => by
    have hm : (10 : UInt8) ∈ s := List.count_pos_iff.1 (by omega)
    obtain ⟨a, r, rfl, ha⟩ := List.eq_append_cons_of_mem hm
    have hi : Lib.index (a ++ 10 :: r) [10] = a.length := by rw [Lib.index_one]; exact indexByte_at r a ha
    have hr : r.count 10 = k := by
      rw [List.count_append, List.count_eq_zero.2 ha, List.count_cons_self] at h; omega
    rw [Lib.splitK, hi, if_neg (by simp), splitL_line (fun c hc e => ha (e ▸ hc))]
    congr 1
    · simp
    · rw [← splitK_lines k r hr]
      congr 1
      show List.drop ((a.length : Int).toNat + 1) _ = r
      rw [Int.toNat_natCast, ← List.drop_drop, List.drop_left]; rfl
theorem split_lines (s : ByteArray) : (Lib.splitB (bytesOf [10]) 0 (Lib.countB s (bytesOf [10])) s).map (·.data.toList) = splitL s.data.toList := by
  rw [Lib.splitB_data, bytesOf_list]
  refine splitK_lines _ _ ?_
  show _ = Lib.count s.data.toList (bytesOf [10]).data.toList
  rw [bytesOf_list, Lib.count_one]
theorem spcL_no : ∀ {x : List UInt8}, (9 : UInt8) ∉ x → spcL x = x
  | [], _ => rfl
  | c :: x, h => by
    show (if c = 9 then 32 else c) :: spcL x = _
    rw [if_neg (fun e => h (by simp [e])), spcL_no (fun hm => h (by simp [hm]))]
theorem replaceK_spc : ∀ (k : Nat) (s : List UInt8), s.count 9 = k → Lib.replaceK [9] [32] k s = spcL s
  | 0, s, h => by rw [spcL_no (List.count_eq_zero.1 h)]; rfl
  | k + 1, s, h => by
    have hm : (9 : UInt8) ∈ s := List.count_pos_iff.1 (by omega)
    obtain ⟨a, r, rfl, ha⟩ := List.eq_append_cons_of_mem hm
    have hi : Lib.index (a ++ 9 :: r) [9] = a.length := by rw [Lib.index_one]; exact indexByte_at r a ha
    have hr : r.count 9 = k := by
      rw [List.count_append, List.count_eq_zero.2 ha, List.count_cons_self] at h; omega
    rw [Lib.replaceK_hit _ _ _ _ _ hi]
    have e : (a ++ 9 :: r).drop (a.length + [(9 : UInt8)].length) = r := by
      show List.drop (a.length + 1) _ = r
      rw [← List.drop_drop, List.drop_left]; rfl
    rw [e, replaceK_spc k r hr, List.take_left]
    unfold spcL
    rw [List.map_append, List.map_cons, if_pos rfl]
    have : a.map (fun c => if c = 9 then (32 : UInt8) else c) = a := spcL_no ha
    rw [this]; simp
theorem replace_spc (s : List UInt8) : Lib.replaceAll s [9] [32] = spcL s := by
  unfold Lib.replaceAll Lib.replace
  rw [if_neg (by decide)]
  refine replaceK_spc _ _ ?_
  unfold Lib.replaceNum
  rw [if_pos (.inl (by decide)), Lib.count_one]
theorem splitL_ne : ∀ (s : List UInt8), splitL s ≠ []
  | [] => by simp [splitL]
  | c :: r => by
    unfold splitL
    split
    · simp
    · split <;> simp
theorem splitL_count : ∀ (s : List UInt8), (splitL s).length = s.count 10 + 1
  | [] => rfl
  | c :: r => by
    have ih := splitL_count r
    unfold splitL
    split
    · rename_i h; subst h; rw [List.length_cons, ih, List.count_cons_self]
    · rename_i h
      rw [List.count_cons_of_ne h]
      cases hs : splitL r with
      | nil => exact absurd hs (splitL_ne r)
      | cons x t => rw [hs] at ih; simpa using ih
/- The document's lines: read byte by byte. -/
theorem splitL_snoc_line (done : List (List UInt8)) (x r : List UInt8) (h : ∀ c ∈ x, c ≠ 10) : done ++ splitL (x ++ 10 :: r) = (done ++ [x]) ++ splitL r := by rw [splitL_line h]; simp
/-- The lines of a text of which some bytes were read: those done, and the one begun. -/
structure LinesAt (s : List UInt8) (i frm : Nat) (done : List (List UInt8)) : Prop where
  le : frm ≤ i
  le2 : i ≤ s.length
  clean : ∀ c ∈ (s.drop frm).take (i - frm), c ≠ 10
  all : splitL s = done ++ splitL (s.drop frm)
theorem LinesAt.start (s : List UInt8) : LinesAt s 0 0 [] := ⟨Nat.le_refl _, Nat.zero_le _, by simp, by simp⟩
theorem LinesAt.byte {s : List UInt8} {i frm : Nat} {done : List (List UInt8)} {c : UInt8} (h : LinesAt s i frm done) (hc : s[i]? = some c) (hn : c ≠ 10) : LinesAt s (i + 1) frm done := by
  have hlt := (List.getElem?_eq_some_iff.1 hc).1
  refine ⟨by have := h.le; omega, by omega, fun d hd => ?_, h.all⟩
  have hle := h.le
  rw [show i + 1 - frm = (i - frm) + 1 by omega, List.take_add_one, List.getElem?_drop, show frm + (i - frm) = i by omega, hc] at hd
  rcases List.mem_append.1 hd with hd | hd
  · exact h.clean d hd
  · simp at hd; subst hd; exact hn
theorem LinesAt.line {s : List UInt8} {i frm : Nat} {done : List (List UInt8)} (h : LinesAt s i frm done) (hc : s[i]? = some 10) : LinesAt s (i + 1) (i + 1) (done ++ [(s.drop frm).take (i - frm)]) := by
  have hlt := (List.getElem?_eq_some_iff.1 hc).1
  have hle := h.le
  refine ⟨Nat.le_refl _, by omega, by simp, ?_⟩
  have e : s.drop frm = (s.drop frm).take (i - frm) ++ 10 :: s.drop (i + 1) := by
    conv => lhs; rw [← List.take_append_drop (i - frm) (s.drop frm)]
    rw [List.drop_drop, show frm + (i - frm) = i by omega, drop_cons_of hc]
  rw [h.all]
  conv => lhs; rw [e]
  exact splitL_snoc_line done _ _ h.clean
theorem LinesAt.done {s : List UInt8} {frm : Nat} {done : List (List UInt8)} (h : LinesAt s s.length frm done) : splitL s = done ++ [s.drop frm] := by
  have hc := h.clean
  rw [List.take_of_length_le (by rw [List.length_drop]; omega)] at hc
  rw [h.all, splitL_no hc]
end Go.Proofs.YtejccafolfeabaaGreatDoor

/-
  props.(*Db).add, walked.
-/
namespace Go.Proofs.YtejccafolfeabaaGreatDoor
open Go.RowKit Go.Maps

theorem itemP_err {s : ByteArray} {a p : Nat} {e : Int} (h : itemP s a = .error (e, p)) : 20 ≤ e ∧ e ≤ 23 := by
  unfold itemP at h
  cases h1 : runeP s a with
  | error x => rw [h1] at h; injection h with h; subst h; have := runeP_err h1; omega
  | ok y =>
    obtain ⟨lo, q⟩ := y
    rw [h1] at h
    by_cases h45 : (rest s q).head? = some 45
    · simp only [h45, if_true] at h
      cases h2 : runeP s (q + 1) with
      | error x => rw [h2] at h; injection h with h; subst h; have := runeP_err h2; omega
      | ok z =>
        rw [h2] at h
        simp only at h
        repeat' split at h
        all_goals first
          | (injection h with h; injection h with h1 h2; subst h1; omega)
          | cases h
    · simp only [h45, if_false] at h
      repeat' split at h
      all_goals first
        | (injection h with h; injection h with h1 h2; subst h1; omega)
        | cases h
theorem parseGo_err {s : ByteArray} {p : Nat} {e : Int} : ∀ (f a : Nat) (l : List (Int × Int)), parseGo s f a l = .error (e, p) → 20 ≤ e ∧ e ≤ 23
  | 0, a, l, h => by cases h
  | f + 1, a, l, h => by
    unfold parseGo at h
    split at h
    · cases h
    · split at h
      · exact parseGo_err f _ _ h
      · cases hi : itemP s a with
        | error x => rw [hi] at h; injection h with h; subst h; exact itemP_err hi
        | ok y => rw [hi] at h; exact parseGo_err f _ _ h
theorem parse_code {s : ByteArray} {x : Int × Nat} (h : parseP s = .error x) : 20 ≤ x.1 ∧ x.1 ≤ 23 := parseGo_err _ _ _ (show parseGo s (s.size + 1) 0 [] = .error (x.1, x.2) from h)

/-- The library's own number: some number. -/
def MaxW (w : World) : Prop := ∃ m, w.cell? ⟨0, 0, none⟩ = some (.int .i64 m)
theorem MaxW.below {w w' : World} (h : MaxW w) (hb : Below w.heap.size w w') : MaxW w' := let ⟨m, hm⟩ := h; ⟨m, cell_keep hm hb⟩
theorem lReplace_any (s : ByteArray) (w : World) (hM : MaxW w) (hs : s.size ≤ 1000000) :
    Calls Tryz.prog 70 #[.string s, .string ⟨#[9]⟩, .string ⟨#[32]⟩] w fun e w' => e = .returned (.string (bytesOf (spcL s.data.toList))) ∧ Below w.heap.size w w' := by
  obtain ⟨m, hm⟩ := hM
  have hc := Lib.countB_le (⟨#[9]⟩ : ByteArray) (show 1 ≤ 1 by omega) s.size s (Nat.le_refl _)
  have h := Tryz.strings_ReplaceAll s ⟨#[9]⟩ ⟨#[32]⟩ m w (by omega) hm (show 1 ≤ 1 by omega) (by rw [show (ByteArray.mk #[32]).size = 1 from rfl]; omega)
  refine h.mono ?_
  rintro e w' ⟨rfl, hb⟩
  refine ⟨?_, hb⟩
  rw [show (ByteArray.mk #[9]).data.toList = [9] from rfl, show (ByteArray.mk #[32]).data.toList = [32] from rfl, replace_spc]; rfl

/-- What add leaves. -/
def AddEnd (base p x : Nat) (r : Except Int DbP) (e : Ending) (w' : World) : Prop :=
  match r with
  | .error k => e = .returned (.int .i64 k)
  | .ok d' => e = .returned (.int .i64 0) ∧ DbB w' base p x d'
theorem AddEnd.err {base p x : Nat} {r : Except Int DbP} {k : Int} {w' : World} (h : r = .error k) : AddEnd base p x r (.returned (.int .i64 k)) w' := by rw [h]; exact rfl
theorem AddEnd.fine {base p x : Nat} {r : Except Int DbP} {d : DbP} {w' : World} (h : r = .ok d) (hd : DbB w' base p x d) : AddEnd base p x r (.returned (.int .i64 0)) w' := by rw [h]; exact ⟨rfl, hd⟩

theorem nbrP_err {d : DbP} {n : List UInt8} {k : Int} (h : nbrP d n = .error k) : k = 6 := by
  unfold nbrP at h
  split at h
  · cases h
  · split at h
    · injection h with h; exact h.symm
    · cases h
theorem parseE_err {l : List UInt8} {y : Int × Nat} (h : parseP (bytesOf l) = .error y) : parseE l = .error y.1 := by unfold parseE; rw [h]
theorem parseE_ok {l : List UInt8} {q : List (Int × Int)} (h : parseP (bytesOf l) = .ok q) : parseE l = .ok q := by unfold parseE; rw [h]
theorem spcL_len (l : List UInt8) : (spcL l).length = l.length := by unfold spcL; rw [List.length_map]
theorem putP_new {d : DbP} {n : List UInt8} {l : List (Int × Int)} : putP d n d.names.length l = ⟨d.names ++ [n], d.sets ++ [orR [] l]⟩ := if_pos rfl
theorem putP_old {d : DbP} {n : List UInt8} {c : Nat} {l : List (Int × Int)} (h : c ≠ d.names.length) : putP d n c l = ⟨d.names, d.sets.set c (orR (d.sets.getD c []) l)⟩ := if_neg h

set_option maxRecDepth 100000 in
set_option maxHeartbeats 8000000 in
theorem wadd_any (p base x : Nat) (d : DbP) (u : List UInt8) (w : World) (hd : DbB w base p x d) (ho : d.Ok) (hx : x < w.heap.size) (hB : base ≤ w.heap.size) (hT : Tabs w) (hM : MaxW w) (hu : u.length ≤ 65536) :
    Calls Tryz.prog 37 #[.pointer (some ⟨p, 0, none⟩), .string (bytesOf u)] w fun e w' => KX base x w w' ∧ AddEnd base p x (addS d u) e w' := by
  obtain ⟨An, nn, cn, bm, nm, D, As, ns, cs, xs, hX⟩ := hd.ex
  have hns0 : nn = ns := by have := ho.len; have h1 := hX.lenN; have h2 := hX.lenS; omega
  subst hns0
  obtain ⟨is1, his1, hzs1, hzs2, hzs3⟩ := info_parts info_cloneS
  obtain ⟨iz1, hiz1, hzz1, hzz2, hzz3⟩ := info_parts (show (Tryz.prog.info? 37).map (fun i => (i.zero, i.size, i.bytes)) = some (some (.slice none 0 0), 1, 24) by kernel_rfl)
  have HF := Lib.hid (wfind_any (bytesOf u) 59 59 rfl w hT (by rw [bytesOf_size]; omega))
  rw [bytesOf_list] at HF
  have hsz : (bytesOf u).size = u.length := bytesOf_size u
  have HO := Lib.hid ho
  clear ho
  cases hq : findP 59 u with
  | none =>
    have HE := Lib.hid (addS_none (d := d) hq)
    rw [hq] at HF
    clear hq
    go_enter Tryz.func37, Tryz.ntmps37
    go_wp2_with (go_at_call 67; refine HF.out.mono ?_; rw [show fv none = -1 from rfl]; rintro e w2 ⟨rfl, hb2⟩)
    go_ret
    exact ⟨KX.below hb2 hB, AddEnd.err HE.out⟩
  | some j =>
    rw [hq] at HF
    have hj : j < u.length := (List.getElem?_eq_some_iff.1 (findP_lt (c := 59) _ u (Nat.le_refl _) j hq)).1
    obtain ⟨n, Hn⟩ : ∃ n, Hid (trimL (u.drop (j + 1)) = n) := ⟨_, rfl⟩
    have hnl : n.length ≤ 65536 := by have := Hn.out; have := trimL_len (u.drop (j + 1)); rw [List.length_drop] at this; rw [← Hn.out]; omega
    have HTR := Lib.hid (fun W => lTrim_any ((bytesOf u).extract (j + 1) u.length) W (by rw [ByteArray.size_extract]; omega))
    rw [show ((bytesOf u).extract (j + 1) u.length).data.toList = u.drop (j + 1) by rw [← hsz, rest_drop, bytesOf_list], Hn.out] at HTR
    have HRP := Lib.hid (fun W hMW => lReplace_any ((bytesOf u).extract 0 j) W hMW (by rw [ByteArray.size_extract]; omega))
    rw [take_extract, bytesOf_list] at HRP
    have HNM := Lib.hid (addS_name (d := d) hq)
    have HPA := Lib.hid (fun hn e => addS_parse (d := d) hq hn (e := e))
    have HMA := Lib.hid (fun hn l hp e => addS_many (d := d) hq hn (l := l) hp (e := e))
    have HCL := Lib.hid (fun hn l hp c hm => addS_clash (d := d) hq hn (l := l) hp (c := c) hm)
    have HOK := Lib.hid (fun hn l hp c hm => addS_ok (d := d) hq hn (l := l) hp (c := c) hm)
    rw [Hn.out] at HNM HPA HMA HCL HOK
    clear hq
    go_enter Tryz.func37, Tryz.ntmps37
    go_wp2_with fail
    refine HF.out.mono ?_
    rw [show fv (some j) = (j : Int) from rfl]
    rintro e w2 ⟨rfl, hb2⟩
    go_wp2_with fail
    refine (HTR.out w2).mono ?_
    rintro e w3 ⟨rfl, hb3⟩
    go_wp2_with fail
    refine (wName_any n w3 (by omega)).mono ?_
    rintro e w4 ⟨rfl, hb4⟩
    have hb := below_two (below_two hb2 hb3) hb4
    clear hb2 hb3 hb4
    have hX4 := hX.below hb
    have hT4 := hT.below hb
    have hM4 := hM.below hb
    cases hnm : nameL n with
    | false =>
      have HE := Lib.hid (HNM.out (.inl hnm))
      go_wp2
      go_ret
      exact ⟨KX.below hb hB, AddEnd.err HE.out⟩
    | true =>
      by_cases hot : n = otherL
      · have HE := Lib.hid (HNM.out (.inr hot))
        have heq : ((bytesOf n).toList == [79, 116, 104, 101, 114]) = true := by rw [ByteArray.toList_eq, bytesOf_list, hot]; rfl
        clear hot hnm HNM
        go_wp2
        go_ret
        exact ⟨KX.below hb hB, AddEnd.err HE.out⟩
      · have heq : ((bytesOf n).toList == [79, 116, 104, 101, 114]) = false := by rw [ByteArray.toList_eq, bytesOf_list]; exact beq_eq_false_iff_ne.2 hot
        have HNN : Hid (¬ (nameL n = false ∨ n = otherL)) := Lib.hid (fun h => by rcases h with h | h; rw [hnm] at h; cases h; exact hot h)
        clear hnm hot HNM
        go_wp2_with fail
        refine (HRP.out w4 hM4).mono ?_
        rintro e w5 ⟨rfl, hb5⟩
        go_wp2_with fail
        refine (rParse_any (bytesOf (spcL (u.take j))) w5 (hT4.below hb5) (by rw [bytesOf_size, spcL_len, List.length_take]; omega)).mono ?_
        rintro e w6 ⟨hb6, hpe⟩
        have hb6' := below_two (below_two hb hb5) hb6
        have hX6 := hX.below hb6'
        have hKX6 := KX.below (x := x) hb6' hB
        have hB6 : base ≤ w6.heap.size := Nat.le_trans hB hb6'.size
        have hx6 : x < w6.heap.size := Nat.lt_of_lt_of_le hx hb6'.size
        clear hX hX4 hT4 hM4 HTR HRP HF
        cases hps : parseP (bytesOf (spcL (u.take j))) with
        | error y =>
          rw [hps] at hpe
          have hpe' : e = .returned (.tuple #[.slice none 0 0, .int .i64 y.1, .int .i64 y.2]) := hpe
          subst hpe'
          have hcode := parse_code hps
          have hne : ((y.1 : Int) != 0) = true := by rw [bne_iff_ne]; omega
          have HE := Lib.hid (HPA.out HNN.out y.1 (parseE_err hps))
          clear hps hpe
          go_wp2
          go_ret
          exact ⟨hKX6, AddEnd.err HE.out⟩
        | ok l0 =>
          rw [hps] at hpe
          obtain ⟨A1, n1, c1, rfl, ho1⟩ := hpe
          have HPE := Lib.hid (parseE_ok hps)
          obtain ⟨q, Hq⟩ : ∃ q, Hid (normR l0 = q) := ⟨_, rfl⟩
          have HNFq : Hid (NF q) := Lib.hid (by rw [← Hq.out]; exact normR_NF l0)
          rw [Hq.out] at ho1
          have ho1 := ho1.more (b' := base) (by have := hb5.size; have := hb.size; omega)
          have hn1 := own_nf_len ho1 HNFq.out
          clear hps
          go_wp2_with fail
          refine (wnumber_any p bm nm nn cn nn cs An As (.slice none 0 0) d D n w6 hX6.blk hX6.hm hX6.hD hX6.lenN HO.out.nodup (by have := HO.out.few; have := hX6.lenN; omega) (by omega)).mono ?_
          rintro e w7 ⟨rfl, hw7⟩
          replace hw7 : w6 = w7 := hw7.symm
          subst hw7
          cases hnb : nbrP d n with
          | error k =>
            obtain rfl := nbrP_err hnb
            have HE := Lib.hid (HMA.out HNN.out l0 HPE.out 6 hnb)
            clear hnb
            rw [show numV (.error 6) = .tuple #[.int .i64 0, .int .i64 6] from rfl]
            go_wp2
            go_ret
            exact ⟨hKX6, AddEnd.err HE.out⟩
          | ok c =>
            have HCL' := Lib.hid (fun h => HCL.out HNN.out l0 HPE.out c hnb (by rw [Hq.out]; exact h))
            have HOK' := Lib.hid (fun h => HOK.out HNN.out l0 HPE.out c hnb (by rw [Hq.out]; exact h))
            rw [Hq.out] at HOK'
            have hcn : c ≤ nn := by have := nbrP_le hnb; have := hX6.lenN; omega
            have hlS := hX6.lenS
            have hnn : nn ≤ 64 := by have := HO.out.few; have := hX6.lenN; omega
            have hn0 : 0 < nn := by
              have h1 := HO.out.head
              have h2 := hX6.lenN
              cases hd : d.names with
              | nil => rw [hd] at h1; cases h1
              | cons a b => rw [hd] at h2; simp at h2; omega
            clear hnb
            obtain ⟨g, HAs, _, _⟩ := hX6.hs.form (by omega)
            have c0 := hX6.blk.cell 0
            have c1' := hX6.blk.cell 1
            have c2 := hX6.blk.cell 2
            simp at c0 c1' c2
            rw [show numV (.ok c) = .tuple #[.int .i64 c, .int .i64 0] from rfl]
            go_wp2_with fail
            go_loopw [55] (fun v wr => ∃ (k m : Nat), v = .int .i64 k ∧ k ≤ nn ∧ Hid (ClashAt d c q k) ∧ wr = w6.drewN m) (fun v _ => nn - (intOf v).toNat)
            case atStart => exact ⟨0, 0, rfl, by omega, clashAt_first d c q, rfl⟩
            case round =>
              obtain ⟨k, m, rfl, hk, HC, rfl⟩ := hrel
              by_cases hlt : k < nn
              · obtain ⟨s, Hs⟩ : ∃ s, Hid (d.sets[k]? = some s) := ⟨_, Lib.hid (List.getElem?_eq_getElem (show k < d.sets.length by omega))⟩
                obtain ⟨y, Hy⟩ : ∃ y, Hid (xs[k]? = some y) := ⟨_, Lib.hid (List.getElem?_eq_getElem (show k < xs.length by omega))⟩
                have hoy := hX6.hx.own k y s Hy.out Hs.out
                have HNFs : Hid (NF s) := Lib.hid (HO.out.nf s (List.mem_of_getElem? Hs.out))
                have hny := own_nf_len hoy HNFs.out
                have hly : s.length = y.2.1 := by simpa using hoy.len
                have hcell := hX6.hs.cell' HAs (k := k) (y := y) Hy.out
                have hcap := hoy.cap.1
                have hcap1 := ho1.cap.1
                subst HAs
                by_cases hkc : k = c
                · have hbb : ((k : Int) != (c : Int)) = false := by rw [hkc]; simp
                  have HC' := Lib.hid (clashAt_next HC.out Hs.out (.inl hkc))
                  clear hkc
                  go_wp2
                  go_roundw
                  case rel => exact ⟨k + 1, m, by go_num, by omega, HC', rfl⟩
                  case measure => simp [intOf]; omega
                · have hbb : ((k : Int) != (c : Int)) = true := by rw [bne_iff_ne]; omega
                  cases hmt : meetB s q with
                  | true =>
                    have HE := Lib.hid (HCL'.out (clash_here Hs.out hkc hmt))
                    clear hkc
                    go_wp2_with (go_at_call 72; refine (wmeet_any y.1 A1 y.2.1 y.2.2 n1 c1 s q (w6.drewN m) ((hoy.rd (by omega)).drewN m) ((ho1.rd (by omega)).drewN m) hly (by simpa using ho1.len) (by omega) (by omega) hcap hcap1 HNFs.out.1 HNFq.out.1).mono ?_; rw [hmt]; rintro e w8 ⟨rfl, m2, rfl⟩)
                    go_ret
                    exact ⟨hKX6.trans (KX.below (by first | exact below_refl_drewN _ _ | exact below_drewN (below_refl_drewN _ _) _) hB6), AddEnd.err HE.out⟩
                  | false =>
                    have HC' := Lib.hid (clashAt_next HC.out Hs.out (.inr hmt))
                    clear hkc
                    go_wp2_with (go_at_call 72; refine (wmeet_any y.1 A1 y.2.1 y.2.2 n1 c1 s q (w6.drewN m) ((hoy.rd (by omega)).drewN m) ((ho1.rd (by omega)).drewN m) hly (by simpa using ho1.len) (by omega) (by omega) hcap hcap1 HNFs.out.1 HNFq.out.1).mono ?_; rw [hmt]; rintro e w8 ⟨rfl, m2, rfl⟩)
                    go_roundw
                    case rel => exact ⟨k + 1, _, by go_num, by omega, HC', by first | rfl | exact World.drewN_drewN⟩
                    case measure => simp [intOf]; omega
              · have HC2 := Lib.hid (HOK'.out (clashAt_end HC.out (show ¬ k < d.sets.length by omega)))
                have hbm : Below w6.heap.size w6 (w6.drewN m) := below_refl_drewN _ _
                have hXm := hX6.below hbm
                have hom := ho1.below hbm
                have hKm := hKX6.trans (KX.below hbm hB6)
                have hBm : base ≤ (w6.drewN m).heap.size := hB6
                have hxm : x < (w6.drewN m).heap.size := hx6
                generalize w6.drewN m = wm at hXm hom hKm hBm hxm ⊢
                clear hX6 ho1 HC HCL' HOK' c0 c1' c2 hKX6 hB6 hx6 hbm HAs
                by_cases hc : c = nn
                · have hcb : ((c : Int) == (nn : Int)) = true := by rw [hc]; simp
                  have HKk := Lib.hid (keyS (n := n) (by omega))
                  have hD' := hXm.hD
                  have HP2 : Hid (addS d u = .ok ⟨d.names ++ [n], (d.sets ++ [[]]).set c (orR [] q)⟩) := Lib.hid (by
                    have e : (d.sets ++ [[]]).set c (orR [] q) = d.sets ++ [orR [] q] := by
                      have := set_mid d.sets [] (orR [] q) []
                      rw [show c = d.sets.length by omega]; exact this
                    rw [HC2.out, e, hc, ← hXm.lenN]; exact congrArg Except.ok putP_new)
                  have hcN : Hid ((c : Int) = (d.names.length : Int)) := Lib.hid (by rw [hc, hXm.lenN])
                  have Hxc : Hid ((xs ++ [((none : Option Addr), 0, 0)])[c]? = some (none, 0, 0)) := Lib.hid (by rw [show c = xs.length by omega]; exact get_mid xs _ [])
                  have hclt : c < nn + 1 := by omega
                  have hcI : (c : Int) < (nn : Int) + 1 := by omega
                  have hcJ : c ≤ nn := by omega
                  have k0 := hXm.blk.cell 0
                  have k1 := hXm.blk.cell 1
                  simp at k0 k1
                  clear hc
                  go_wp2_with (first
                    | (at_mapUpdate; refine wpList_mapUpdate_own _ rfl _ _ _ 67 rfl 9 3 keyedS Tryz.underlying67 _ bm nm D rfl hXm.hm (by have := hXm.nle; unfold maxLen; omega) _ _ (.string n) rfl rfl HKk.out _ [] (plainElem_int Tryz.underlying3 (WalkArith.wf_i64 (by omega))) ?_; intro w8 hown8 hg8; obtain ⟨bl8, on8, os8, ox8⟩ := hXm.mapped hg8; have k80 := bl8.cell 0; have hs8 := hg8.size; simp only [List.getElem?_toArray, List.getElem?_cons_zero] at k80)
                    | (at_builtin; refine wpList_app rfl (.tmp 86) (.tmp 88) _ rfl base 9 is1 _ 1 16 Tryz.underlying35 his1 hzs1 hzs2 hzs3 rfl (by omega) An nn cn (d.names.map encNm) rfl (on8.alloc _) _ 1 1 [encNm n] rfl rfl (Rd.newAt (by simp) rfl) (encNm_ok [n]) (by unfold maxLen; omega) (by omega) (by simp; omega) ?_; intro A3 c3 w9 ho9 hg9 hA9; have HN9 := hXm.named hcN.out hown8 hg8 (by rw [List.map_append]; exact ho9) hg9 hA9 hxm hBm; have k90 := HN9.1.cell 0; have f90 := HN9.1.frozen 0; have k92 := HN9.2.1.blk.cell 2; simp only [List.getElem?_toArray, List.getElem?_cons_zero, List.getElem?_cons_succ] at k90 k92; have hz9 : wm.heap.size ≤ (w9.setCell ⟨p, 0, none⟩ (.slice A3 (nn + 1) c3)).heap.size := HN9.2.2.1.1.size)
                    | (at_builtin; refine wpList_app rfl (.tmp 96) (.tmp 97) _ rfl base 37 iz1 _ 1 24 Tryz.underlying68 hiz1 hzz1 hzz2 hzz3 rfl (by omega) As nn cs (xs.map encSl) rfl (HN9.2.1.hs.alloc _) _ 1 1 [encSl (none, 0, 0)] rfl rfl (Rd.newAt (by simp [World.setCell]) rfl) (encSl_ok [(none, 0, 0)]) (by unfold maxLen; omega) (by omega) (by simp [World.setCell] at hz9 ⊢; omega) ?_; intro A6 c6 w11 ho11 hg11 hA11; have HM := HN9.2.1.moreSet (by rw [List.map_append]; exact ho11) hg11 hA11 (by omega) (by omega); have k110 := HM.1.cell 2; have f110 := HM.1.frozen 2; have k112 := HM.2.1.blk.cell 2; simp only [List.getElem?_toArray, List.getElem?_cons_zero, List.getElem?_cons_succ] at k110 k112)
                    | fail)
                  have hXt := HM.2.1
                  have hKt := (hKm.trans HN9.2.2.1).trans HM.2.2.1
                  have hot := (hom.keepR HN9.2.2.2 (Nat.le_refl _)).keepR HM.2.2.2 (Nat.le_refl _)
                  have hBt : base ≤ (w11.setCell ⟨p, 2, none⟩ (.slice A6 (nn + 1) c6)).heap.size := Nat.le_trans hBm (Nat.le_trans hz9 HM.2.2.1.1.size)
                  clear HM HN9 hown8 hg8 bl8 on8 os8 ox8 k80 hs8 hg9 hA9 ho9 k90 f90 k92 hz9 hg11 hA11 ho11 k110 f110 k112 hXm hom hKm hBm hxm k0 k1
                  generalize w11.setCell ⟨p, 2, none⟩ (.slice A6 (nn + 1) c6) = wt at hXt hKt hot hBt ⊢
                  have hrd0 : Rd wt 2 none (([] : List (Int × Int)).map encR) := Rd.nil_ _ _ _
                  have hrd1 := hot.rd (by omega)
                  have hlen0 : ([] : List (Int × Int)).length = 0 := rfl
                  have hlen1 : q.length = n1 := by simpa using hot.len
                  obtain ⟨g, HAs, _, _⟩ := hXt.hs.form (show 0 < nn + 1 by omega)
                  have hcell := hXt.hs.cell' HAs (k := c) (y := ((none : Option Addr), 0, 0)) Hxc.out
                  subst HAs
                  have k2 := hXt.blk.cell 2
                  simp at k2
                  have hXd := hXt.below (w' := wt.drew) ((Below.refl _ _).drew)
                  have HOR := Lib.hid (rOr_any none A1 0 0 n1 c1 [] q wt.drew hrd0.drew hrd1.drew hlen0 hlen1 (by omega))
                  refine wp_region_noPanic ?_
                  go_region_law (go_simp; go_at_call 73; refine HOR.out.mono ?_; rintro e wz ⟨A', n', c', rfl, ho', hb'⟩; have kz2 := cell_keep (w := wt.drew) k2 hb'; have kzc := cell_keep (w := wt.drew) hcell hb'; have kzf := (hXd.hs.below hb').frozen c)
                  all_goals
                    refine NoPanic.normal ?_
                    have hDz := (hXd.below hb').storeSet (k := c) (y := (A', n', c')) (show c < nn + 1 by omega) ho' hBt
                    have hKz := (hKt.trans ((KX.below ((Below.refl _ _).drew) hBt).trans (KX.below hb' hBt))).trans hDz.2
                    go_wp2
                    go_ret
                    exact ⟨hKz, AddEnd.fine HP2.out ⟨_, _, _, _, _, _, _, _, _, _, hDz.1⟩⟩
                · have hcb : ((c : Int) == (nn : Int)) = false := beq_eq_false_iff_ne.2 (by omega)
                  have HP' : Hid (putP d n c q = ⟨d.names, d.sets.set c (orR (d.sets.getD c []) q)⟩) := Lib.hid (putP_old (by rw [hXm.lenN]; exact hc))
                  obtain ⟨l1, Hl1⟩ : ∃ l1, Hid (d.sets[c]? = some l1) := ⟨_, Lib.hid (List.getElem?_eq_getElem (show c < d.sets.length by omega))⟩
                  have HP2 : Hid (addS d u = .ok ⟨d.names, d.sets.set c (orR l1 q)⟩) := Lib.hid (by rw [HC2.out, HP'.out, List.getD_eq_getElem?_getD, Hl1.out]; rfl)
                  obtain ⟨y, Hxc⟩ : ∃ y, Hid (xs[c]? = some y) := ⟨_, Lib.hid (List.getElem?_eq_getElem (show c < xs.length by omega))⟩
                  have hoy := hXm.hx.own c y l1 Hxc.out Hl1.out
                  have hny := own_nf_len hoy (HO.out.nf l1 (List.mem_of_getElem? Hl1.out))
                  have hrd0 := hoy.rd (by omega)
                  have hrd1 := hom.rd (by omega)
                  have hlen0 : l1.length = y.2.1 := by simpa using hoy.len
                  have hlen1 : q.length = n1 := by simpa using hom.len
                  have hKt := hKm
                  have hBt := hBm
                  have hclt : c < nn := by omega
                  have k0 := hXm.blk.cell 0
                  simp at k0
                  clear hc
                  go_wp2_with fail
                  obtain ⟨g, HAs, _, _⟩ := hXm.hs.form (show 0 < nn by omega)
                  have hcell := hXm.hs.cell' HAs (k := c) (y := y) Hxc.out
                  subst HAs
                  have k2 := hXm.blk.cell 2
                  simp at k2
                  have hXd := hXm.below (w' := wm.drew) ((Below.refl _ _).drew)
                  have HOR := Lib.hid (rOr_any y.1 A1 y.2.1 y.2.2 n1 c1 l1 q wm.drew hrd0.drew hrd1.drew hlen0 hlen1 (by omega))
                  refine wp_region_noPanic ?_
                  go_region_law (go_simp; go_at_call 73; refine HOR.out.mono ?_; rintro e wz ⟨A', n', c', rfl, ho', hb'⟩; have kz2 := cell_keep (w := wm.drew) k2 hb'; have kzc := cell_keep (w := wm.drew) hcell hb'; have kzf := (hXd.hs.below hb').frozen c)
                  all_goals
                    refine NoPanic.normal ?_
                    have hDz := (hXd.below hb').storeSet (k := c) (y := (A', n', c')) (show c < nn by omega) ho' hBt
                    have hKz := (hKt.trans ((KX.below ((Below.refl _ _).drew) hBt).trans (KX.below hb' hBt))).trans hDz.2
                    go_wp2
                    go_ret
                    exact ⟨hKz, AddEnd.fine HP2.out ⟨_, _, _, _, _, _, _, _, _, _, hDz.1⟩⟩
end Go.Proofs.YtejccafolfeabaaGreatDoor

/-
  props: Get (with the library's binary search at Ranged), walked.
-/
namespace Go.Proofs.YtejccafolfeabaaGreatDoor
open Go.RowKit Go.Maps

def cmpV (x y : Int) : Int := if x < y then -1 else if y < x then 1 else 0
set_option maxHeartbeats 400000 in
theorem lIsNaN_any (x : Int) (w : World) : Calls Tryz.prog 86 #[.int .i32 x] w fun e w' => e = .returned (.bool false) ∧ w' = w := by
  go_enter Tryz.func86, Tryz.ntmps86
  go_wp2
  go_ret
  exact ⟨by simp, rfl⟩
set_option maxHeartbeats 400000 in
theorem lCompare_any (x y : Int) (w : World) : Calls Tryz.prog 52 #[.int .i32 x, .int .i32 y] w fun e w' => e = .returned (.int .i64 (cmpV x y)) ∧ w' = w := by
  rcases (by omega : x < y ∨ y < x ∨ x = y) with h | h | h
  · have hv : Hid (cmpV x y = -1) := Lib.hid (by unfold cmpV; rw [if_pos h])
    go_enter Tryz.func52, Tryz.ntmps52
    go_wp2_with (go_at_call 86; refine (lIsNaN_any _ _).mono ?_; rintro e w' ⟨rfl, rfl⟩)
    go_ret
    exact ⟨by rw [hv.out]; rfl, rfl⟩
  · have hv : Hid (cmpV x y = 1) := Lib.hid (by unfold cmpV; rw [if_neg (by omega), if_pos h])
    go_enter Tryz.func52, Tryz.ntmps52
    go_wp2_with (go_at_call 86; refine (lIsNaN_any _ _).mono ?_; rintro e w' ⟨rfl, rfl⟩)
    go_ret
    exact ⟨by rw [hv.out]; rfl, rfl⟩
  · subst h
    have hv : Hid (cmpV x x = 0) := Lib.hid (by unfold cmpV; rw [if_neg (by omega), if_neg (by omega)])
    go_enter Tryz.func52, Tryz.ntmps52
    go_wp2_with (go_at_call 86; refine (lIsNaN_any _ _).mono ?_; rintro e w' ⟨rfl, rfl⟩)
    go_ret
    exact ⟨by rw [hv.out]; rfl, rfl⟩
set_option maxHeartbeats 400000 in
theorem wGet1_any (lo hi c r : Int) (w : World) : Calls Tryz.prog 51 #[.agg #[.int .i32 lo, .int .i32 hi, .int .i64 c], .int .i32 r] w fun e w' => e = .returned (.int .i64 (cmpV hi r)) ∧ Below w.heap.size w w' := by
  go_enter Tryz.func51, Tryz.ntmps51
  go_wp2_with (go_at_call 52; refine (lCompare_any _ _ _).mono ?_; rintro e w' ⟨rfl, rfl⟩)
  go_ret
  exact ⟨rfl, (Below.refl _ _).alloc (Nat.le_refl _) _⟩

theorem Rd.atD {w : World} {A : Option Addr} {l : List (Int × Int × Nat)} {k : Nat} {x : Int × Int × Nat} (h : Rd w 3 A (l.map encD)) (hk : l[k]? = some x) :
    ∃ b off, A = some ⟨b, off, none⟩ ∧ w.cell? ⟨b, off + k * 3, none⟩ = some (.int .i32 x.1) ∧ w.cell? ⟨b, off + k * 3 + 1, none⟩ = some (.int .i32 x.2.1) ∧ w.cell? ⟨b, off + k * 3 + 2, none⟩ = some (.int .i64 (x.2.2 : Int)) := by
  obtain ⟨b, off, rfl, hc⟩ := h (by intro e; cases l with | nil => simp at hk | cons _ _ => simp at e)
  have h0 := hc k 0 (encD x) (.int .i32 x.1) (by simp [hk]) rfl
  have h1 := hc k 1 (encD x) (.int .i32 x.2.1) (by simp [hk]) rfl
  have h2 := hc k 2 (encD x) (.int .i64 (x.2.2 : Int)) (by simp [hk]) rfl
  exact ⟨b, off, rfl, by simpa using h0, h1, h2⟩

set_option maxRecDepth 100000 in
set_option maxHeartbeats 2000000 in
theorem lSearch_any (A : Option Addr) (n c : Nat) (l : List (Int × Int × Nat)) (r : Int) (w : World) (hA : Rd w 3 A (l.map encD)) (hl : l.length = n) (hn : n ≤ 4000000) (hp : l.Pairwise fun a b => a.2.1 < b.1) (hle : ∀ y ∈ l, y.1 ≤ y.2.1) :
    Calls Tryz.prog 50 #[.slice A n c, .int .i32 r, .func (.func 51) #[] #[]] w fun e w' => (∃ q : Bool, e = .returned (.tuple #[.int .i64 (l.countP (endB r) : Nat), .bool q])) ∧ Below w.heap.size w w' := by
  have Hl := Lib.hid hl
  have Hp := Lib.hid hp
  have Hle := Lib.hid hle
  clear hl hp hle
  go_enter Tryz.func50, Tryz.ntmps50
  go_wp2
  go_loopw [9, 10] (fun u v wr => ∃ (i j : Nat), u = .int .i64 i ∧ v = .int .i64 j ∧ i ≤ j ∧ j ≤ n ∧ Hid (BinAt l r i j) ∧ Below w.heap.size w wr) (fun u v _ => (intOf v).toNat - (intOf u).toNat)
  case atStart => exact ⟨0, n, rfl, rfl, by omega, by omega, by rw [← Hl.out]; exact binAt_first l r, Below.refl _ _⟩
  case round =>
    obtain ⟨i, j, rfl, rfl, hij, hj, HB, hb⟩ := hrel
    by_cases hlt : i < j
    · obtain ⟨h, Hh⟩ : ∃ h, Hid (h = (i + j) / 2) := ⟨_, rfl⟩
      have hh1 : i ≤ h := by have := Hh.out; omega
      have hh2 : h < j := by have := Hh.out; omega
      obtain ⟨x, Hx⟩ : ∃ x, Hid (l[h]? = some x) := ⟨_, Lib.hid (List.getElem?_eq_getElem (by have := Hl.out; omega))⟩
      obtain ⟨b, off, rfl, x0, x1, x2⟩ := hA.atD Hx.out
      have x0 := cell_keep x0 hb
      have x1 := cell_keep x1 hb
      have x2 := cell_keep x2 hb
      have e1 : ((i : Int) + (j : Int)) / 2 = (h : Int) := by have := Hh.out; omega
      have e2 : (i + j) / 2 = h := by have := Hh.out; omega
      by_cases hx : x.2.1 < r
      · have HV : Hid (cmpV x.2.1 r = -1) := Lib.hid (by unfold cmpV; rw [if_pos hx])
        have HB' := Lib.hid (binAt_left HB.out Hp.out Hle.out hh2 Hx.out hx)
        go_wp2_with (go_at_call 51; refine (wGet1_any _ _ _ _ _).mono ?_; rw [HV.out]; rintro e w2 ⟨rfl, hb2⟩)
        go_roundw
        case rel => exact ⟨h + 1, j, by go_num, rfl, by omega, hj, HB', below_step hb hb2 hb.size⟩
        case measure => simp [intOf]; omega
      · have HB' := Lib.hid (binAt_right HB.out Hp.out Hle.out hh1 hh2 Hx.out hx)
        obtain ⟨v, HV, hv⟩ : ∃ v, Hid (cmpV x.2.1 r = v) ∧ 0 ≤ v := ⟨_, rfl, by unfold cmpV; rw [if_neg hx]; split <;> omega⟩
        go_wp2_with (go_at_call 51; refine (wGet1_any _ _ _ _ _).mono ?_; rw [HV.out]; rintro e w2 ⟨rfl, hb2⟩)
        go_roundw
        case rel => exact ⟨i, h, rfl, by go_num, by omega, by omega, HB', below_step hb hb2 hb.size⟩
        case measure => simp [intOf]; omega
    · have HE := Lib.hid (binAt_end HB.out hlt)
      by_cases hin : i < n
      · obtain ⟨x, Hx⟩ : ∃ x, Hid (l[i]? = some x) := ⟨_, Lib.hid (List.getElem?_eq_getElem (by have := Hl.out; omega))⟩
        obtain ⟨b, off, rfl, x0, x1, x2⟩ := hA.atD Hx.out
        have x0 := cell_keep x0 hb
        have x1 := cell_keep x1 hb
        have x2 := cell_keep x2 hb
        go_wp2_with (go_at_call 51; refine (wGet1_any _ _ _ _ _).mono ?_; rintro e w2 ⟨rfl, hb2⟩)
        go_ret2
        exact ⟨⟨_, by rw [HE.out]; rfl⟩, below_step hb hb2 hb.size⟩
      · go_wp2
        go_ret2
        exact ⟨⟨_, by rw [HE.out]; rfl⟩, hb⟩

/-- What a rune's class is, found among the ranges. -/
theorem get_in {d : DbP} (h : d.Ok) (ha : Apart d.sets) {r : Int} {i : Nat} (hi : d.rng.countP (endB (askR r)) = i) {x : Int × Int × Nat} (hx : d.rng[i]? = some x) : d.get r = if x.1 ≤ askR r then x.2.2 else 0 := by
  rw [← find_get h ha r]; subst hi; exact findC_in hx
theorem get_out {d : DbP} (h : d.Ok) (ha : Apart d.sets) {r : Int} {i : Nat} (hi : d.rng.countP (endB (askR r)) = i) (hx : ¬ i < d.rng.length) : d.get r = 0 := by
  rw [← find_get h ha r]; subst hi; exact findC_out hx
theorem rng_le {d : DbP} (h : d.Ok) : ∀ y ∈ d.rng, y.1 ≤ y.2.1 := fun y hy => (rng_bd h y hy).2.1

set_option maxRecDepth 100000 in
set_option maxHeartbeats 4000000 in
theorem wGet_any (p : Nat) (d : DbP) (r : Int) (w : World) (h : DbAt w p d) (ho : d.Ok) (ha : Apart d.sets) :
    Calls Tryz.prog 22 #[.pointer (some ⟨p, 0, none⟩), .int .i32 r] w fun e w' => e = .returned (.int .i64 (d.get r : Nat)) ∧ Below w.heap.size w w' := by
  obtain ⟨An, nn, cn, bm, nm, D, As, ns, cs, xs, Ar, nr, cr, hp, _, _, _, _, _, hr⟩ := h.ex
  have hlr : d.rng.length = nr := by simpa using hr.len
  have hnr : nr ≤ 4000000 := by have := (rng_len ho ha).1; omega
  have hrd := hr.rd (by omega)
  have HS := Lib.hid (fun W q (hA : Rd W 3 Ar (d.rng.map encD)) => lSearch_any Ar nr cr d.rng q W hA hlr hnr (rng_next ho ha) (rng_le ho))
  have HI := Lib.hid (fun i x (hi : d.rng.countP (endB (askR r)) = i) (hx : d.rng[i]? = some x) => get_in ho ha hi hx)
  have HO := Lib.hid (fun i (hi : d.rng.countP (endB (askR r)) = i) (hx : ¬ i < nr) => get_out ho ha hi (by rw [hlr]; exact hx))
  have Hlr := Lib.hid hlr
  have c3 := hp.cell 3
  simp at c3
  have hcase0 : (r < 0 ∧ askR r = 65533) ∨ (¬ r < 0 ∧ 1114111 < r ∧ askR r = 65533) ∨ (¬ r < 0 ∧ ¬ 1114111 < r ∧ askR r = r) := by
    unfold askR; split <;> omega
  obtain ⟨q, hq⟩ : ∃ q, askR r = q := ⟨_, rfl⟩
  rw [hq] at HI HO hcase0
  obtain ⟨i, Hi⟩ : ∃ i, Hid (d.rng.countP (endB q) = i) := ⟨_, rfl⟩
  have hile : i ≤ nr := by have := Hi.out; have := List.countP_le_length (p := endB q) (l := d.rng); omega
  have hcase := hcase0
  clear hcase0 hq
  clear ho ha h hlr
  by_cases hin : i < nr
  · obtain ⟨x, Hx⟩ : ∃ x, Hid (d.rng[i]? = some x) := ⟨_, Lib.hid (List.getElem?_eq_getElem (by have := Hlr.out; omega))⟩
    obtain ⟨b, off, rfl, x0, x1, x2⟩ := hrd.atD Hx.out
    have HG := Lib.hid (HI.out i x Hi.out Hx.out)
    by_cases hx : x.1 ≤ q
    · have HV : Hid (d.get r = x.2.2) := Lib.hid (by rw [HG.out, if_pos hx])
      clear HG HI HO
      rcases hcase with ⟨h1, rfl⟩ | ⟨h1, h2, rfl⟩ | ⟨h1, h2, rfl⟩
      all_goals
        go_enter Tryz.func22, Tryz.ntmps22
        go_wp2_with (go_at_call 50; refine (HS.out _ _ hrd).mono ?_; rw [Hi.out]; rintro e w1 ⟨⟨v, rfl⟩, hb1⟩; replace c3 := cell_keep c3 hb1; replace x0 := cell_keep x0 hb1; replace x2 := cell_keep x2 hb1)
        go_ret
        exact ⟨by rw [HV.out]; rfl, hb1⟩
    · have HV : Hid (d.get r = 0) := Lib.hid (by rw [HG.out, if_neg hx])
      clear HG HI HO
      rcases hcase with ⟨h1, rfl⟩ | ⟨h1, h2, rfl⟩ | ⟨h1, h2, rfl⟩
      all_goals
        go_enter Tryz.func22, Tryz.ntmps22
        go_wp2_with (go_at_call 50; refine (HS.out _ _ hrd).mono ?_; rw [Hi.out]; rintro e w1 ⟨⟨v, rfl⟩, hb1⟩; replace c3 := cell_keep c3 hb1; replace x0 := cell_keep x0 hb1; replace x2 := cell_keep x2 hb1)
        go_ret
        exact ⟨by rw [HV.out]; rfl, hb1⟩
  · have HV : Hid (d.get r = 0) := Lib.hid (HO.out i Hi.out hin)
    clear HI HO
    rcases hcase with ⟨h1, rfl⟩ | ⟨h1, h2, rfl⟩ | ⟨h1, h2, rfl⟩
    all_goals
      go_enter Tryz.func22, Tryz.ntmps22
      go_wp2_with (go_at_call 50; refine (HS.out _ _ hrd).mono ?_; rw [Hi.out]; rintro e w1 ⟨⟨v, rfl⟩, hb1⟩; replace c3 := cell_keep c3 hb1)
      go_ret
      exact ⟨by rw [HV.out]; rfl, hb1⟩
end Go.Proofs.YtejccafolfeabaaGreatDoor

/-
  props.(*Db).close, walked; the library's sort of ranges with classes.
-/
namespace Go.Proofs.YtejccafolfeabaaGreatDoor
open Go.RowKit Go.Maps Go.Shelf Go.Sort

theorem encD_len (x : Int × Int × Nat) : (encD x).length = 3 := rfl
def cfD (x y : Int × Int × Nat) : Int := cmpV x.1 y.1
theorem ltD (x y : Int × Int × Nat) : ltOf cfD x y = decide (x.1 < y.1) := by
  unfold ltOf cfD cmpV
  rcases (by omega : x.1 < y.1 ∨ y.1 < x.1 ∨ x.1 = y.1) with h | h | h
  · simp [h]
  · have h2 : ¬ x.1 < y.1 := by omega
    simp [h, h2]
  · have h2 : ¬ x.1 < y.1 := by omega
    have h3 : ¬ y.1 < x.1 := by omega
    simp [h2, h3]
theorem swoD : SWO (ltOf cfD) where
  irrefl x := by rw [ltD]; simp
  trans x y z h1 h2 := by rw [ltD] at *; simp at *; omega
  ntrans x y z h1 h2 := by rw [ltD] at *; simp at *; omega
set_option maxHeartbeats 1000000 in
theorem closureD (x y : Int × Int × Nat) (W : World) :
    Calls Tryz.prog 75 #[.agg #[.int .i32 x.1, .int .i32 x.2.1, .int .i64 x.2.2], .agg #[.int .i32 y.1, .int .i32 y.2.1, .int .i64 y.2.2]] W fun e w' => e = .returned (.int .i64 (cmpV x.1 y.1)) ∧ ∃ q os', w' = grow (W.drewN q) os' := by
  go_enter Tryz.func75, Tryz.ntmps75
  go_wp2_with (go_at_call 52; refine (lCompare_any _ _ _).mono ?_; rintro e w' ⟨rfl, rfl⟩)
  go_ret
  exact ⟨rfl, 0, _, by rw [alloc_eq_grow, alloc_eq_grow, grow_grow]; rfl⟩
theorem cmpLaysD (blk off size : Nat) (w : World) : CmpLays Tryz.prog 75 #[] encD 3 cfD blk off size w :=
  fun _ _ _ _ x y => closureD x y _
/-- The library's sort, of a row of the call's own. -/
theorem sortD_any (B g n c : Nat) (l : List (Int × Int × Nat)) (w : World) (hown : Own w B 82 3 (some ⟨g, 0, none⟩) n c (l.map encD)) (hn : n ≤ 4000000) :
    Calls Tryz.prog 74 #[.slice (some ⟨g, 0, none⟩) n c, .func (.func 75) #[] #[]] w fun e w' => e = .returned (.tuple #[]) ∧ ∃ l', Hid (l'.Perm l) ∧ Hid (RiseC l') ∧ Own w' B 82 3 (some ⟨g, 0, none⟩) n c (l'.map encD) ∧ w.grownBy w' (some g) := by
  have eg : ∀ args w, (callFunc 75 args).run Tryz.prog w = .ok (.enter 75 args) w := enters_of Tryz.func75 (by kernel_rfl) rfl
  let d : Array (Int × Int × Nat) := l.toArray
  have hdl : d.toList.map encD = l.map encD := by simp [d]
  have hdv : d.toList = l := by simp [d]
  have ho : Own w B 82 3 (some ⟨g, 0, none⟩) n c (d.toList.map encD) := by rw [hdl]; exact hown
  have hds : d.size = n := by have := ho.len; simpa using this
  have hlt : g < w.heap.size := (ho.lt _ rfl).2
  have hcon := AnyQ.slices_SortFunc Tryz.sortRd 3 Tryz.isAgg82 Tryz.sizeOf82 encD encD_len (fun x v hv => by simp [encD] at hv; rcases hv with rfl | rfl | rfl <;> rfl) cfD swoD 75 #[] g 0 c d w eg (cmpLaysD g 0 d.size w) (own_holdsK encD_len (by omega) ho) hlt (by omega)
  change Calls Tryz.prog 74 _ _ _ at hcon
  rw [hds] at hcon
  refine hcon.mono ?_
  rintro e w' ⟨rfl, d', m, os, hp, hs, rfl⟩
  obtain ⟨h1, h2⟩ := own_sorted encD_len (by omega) ho (d' := d') (by rw [hp.1]) m os
  refine ⟨rfl, d'.toList, ?_, ?_, h1, h2⟩
  · have hpp := hp.2.2
    rw [Array.extract_eq_self_of_le (by rw [hp.1]; omega), Array.extract_eq_self_of_le (by omega)] at hpp
    exact Lib.hid (by rw [← hdv]; exact hpp)
  · refine Lib.hid ?_
    unfold RiseC
    rw [List.pairwise_iff_getElem]
    intro i j hi hj hij
    have hi' : i < d'.size := by simpa using hi
    have hj' : j < d'.size := by simpa using hj
    have := hs i j (Nat.zero_le _) hij (by rw [hp.1] at hj'; omega)
    rw [ltD] at this
    rw [getElem!_pos d' j hj', getElem!_pos d' i hi'] at this
    simp at this
    simpa using this
theorem sortD_all (B n c : Nat) (A : Option Addr) (l : List (Int × Int × Nat)) (w : World) (hown : Own w B 82 3 A n c (l.map encD)) (hn : n ≤ 4000000) :
    Calls Tryz.prog 74 #[.slice A n c, .func (.func 75) #[] #[]] w fun e w' => e = .returned (.tuple #[]) ∧ ∃ l', Hid (l'.Perm l) ∧ Hid (RiseC l') ∧ Own w' B 82 3 A n c (l'.map encD) ∧ w.grownBy w' (A.map (·.block)) := by
  rcases Nat.eq_zero_or_pos n with h0 | h0
  · subst h0
    have hnil : l = [] := by have := hown.len; simpa using this
    subst hnil
    have h := AnyF.slices_SortFunc_none Tryz.sortRd A c (.func (.func 75) #[] #[]) w
    change Calls Tryz.prog 74 _ _ _ at h
    refine h.mono ?_
    rintro e w' ⟨rfl, rfl⟩
    exact ⟨rfl, [], List.Perm.refl _, List.Pairwise.nil, hown, World.grownBy.refl _ _⟩
  · obtain ⟨g, rfl, _, _⟩ := hown.form h0
    exact sortD_any B g n c l w hown hn

/-- What stood stands but for one block: a row that lies elsewhere reads as it read. -/
theorem Own.old {w w' : World} {base p : Nat} {e : TypeId} {s : Nat} {A : Option Addr} {n c : Nat} {cs : List (List Value)} (h : Own w base e s A n c cs) (hg : w.grownBy w' (some p)) (hp : ∀ a, A = some a → a.block ≠ p) : Own w' base e s A n c cs :=
  h.grown hg fun a ha e => hp a ha (by injection e)
theorem grown_far {w a b : World} {row : Option Nat} {p : Nat} (h : w.grownBy a (some p)) (k : a.grownBy b row) (hr : ∀ g, row = some g → w.heap.size ≤ g ∨ g = p) : w.grownBy b (some p) :=
  ⟨k.os.trans h.os, k.tape.trans h.tape, k.output.trans h.output, Nat.le_trans h.size k.size, fun i hi hne => (k.block i (Nat.lt_of_lt_of_le hi h.size) fun e => by
    rcases hr i e.symm with h1 | h1
    · omega
    · exact hne (by rw [h1])).trans (h.block i hi hne)⟩

section
variable {w : World} {base p x : Nat} {An : Option Addr} {nn cn bm nm : Nat} {D : DataW Unit} {As : Option Addr} {ns cs : Nat} {xs : List (Option Addr × Nat × Nat)} {d : DbP}
theorem rd_types : (82 : TypeId) ≠ 70 ∧ (82 : TypeId) ≠ 80 := by decide
/-- The end of close: the database as it is read. -/
theorem DbX.closed {w2 wz : World} {Ar : Option Addr} {nr cr g : Nat} {y : Option Addr × Nat × Nat} (h : DbX w base p x An nn cn bm nm D (some ⟨g, 0, none⟩) ns cs xs d.names d.sets) (ho : d.Ok) (hg : w.grownBy w2 (some p)) (hB : base ≤ w.heap.size)
    (hb : Blk w2 p 70 #[.slice An nn cn, .map (some bm), .slice (some ⟨g, 0, none⟩) ns cs, .slice Ar nr cr]) (hr : Own w2 w.heap.size 82 3 Ar nr cr (d.rng.map encD)) (hz : Below w2.heap.size w2 wz) (hy : Own wz w2.heap.size 80 2 y.1 y.2.1 y.2.2 (d.rest.map encR)) :
    DbAt (wz.setCell ⟨g, 0, none⟩ (.slice y.1 y.2.1 y.2.2)) p d ∧ Below base w (wz.setCell ⟨g, 0, none⟩ (.slice y.1 y.2.1 y.2.2)) := by
  obtain ⟨t1, t2, t3, t4, t5, t6⟩ := types_ne
  have hgp : g ≠ p := h.hs.off h.blk t3 _ rfl
  have hgw : g < w.heap.size := (h.hs.lt _ rfl).2
  have hn0 : 0 < ns := by
    have h1 := h.lenS.2; have h2 := ho.len; have h3 := ho.head
    cases hd : d.names with
    | nil => rw [hd] at h3; cases h3
    | cons a b => rw [hd] at h2; simp at h2; omega
  have n2 := (h.hn.old hg (h.hn.off h.blk t2)).below hz
  have s2 := (h.hs.old hg (h.hs.off h.blk t3)).below hz
  have m2 := map_below (map_kept h.hm hg (fun e => h.blk.offMap h.hm (by injection e with e; exact e.symm))) hz
  have x2 := (h.hx.grown hg (fun q r e => by injection e with e; subst e; exact blk_not_R h.blk t6 r)).below hz
  have b2 := hb.below hz
  have r2 := hr.below hz
  have hsn := fun (a : Addr) (ha : An = some a) => h.hn.apart h.hs t1 a ⟨g, 0, none⟩ ha rfl
  refine ⟨⟨An, nn, cn, bm, nm, D, some ⟨g, 0, none⟩, ns, cs, xs.set 0 y, Ar, nr, cr, b2.far (p := ⟨g, 0, none⟩) (Ne.symm hgp) _, (n2.setCell (p := ⟨g, 0, none⟩) hsn _).more (Nat.zero_le _), map_setCell m2 (q := ⟨g, 0, none⟩) (fun e => h.hs.offMap h.hm ⟨g, 0, none⟩ rfl e.symm) _, h.hD, ?_, ?_, ?_⟩, ?_⟩
  · have := s2.storedSl (k := 0) (by rw [h.lenS.1]; exact hn0) y
    exact this.more (Nat.zero_le _)
  · rw [← full_set ho]
    refine Sets.set_ ((x2.setCell (q := ⟨g, 0, none⟩) (fun r => own_not_R s2 t5 g r rfl) _).more (Nat.zero_le _)) ?_
    exact (hy.setCell (p := ⟨g, 0, none⟩) (fun a ha e => by have := (hy.lt a ha).1; have := hg.size; simp only at e; omega) _).more (Nat.zero_le _)
  · exact (r2.setCell (p := ⟨g, 0, none⟩) (fun a ha e => by have := (hr.lt a ha).1; simp only at e; omega) _).more (Nat.zero_le _)
  · have hw2 : Below base w w2 := (Below.refl _ _).grown hg hB (fun k hk => by injection hk with hk; subst hk; exact h.pb)
    exact (below_step hw2 hz (Nat.le_trans hB hg.size)).setCell (p := ⟨g, 0, none⟩) (h.hs.lt _ rfl).1 _
end

set_option maxRecDepth 100000 in
set_option maxHeartbeats 8000000 in
theorem wclose_any (p base x : Nat) (d : DbP) (w : World) (hd : DbB w base p x d) (ho : d.Ok) (ha : Apart d.sets) (hB : base ≤ w.heap.size) :
    Calls Tryz.prog 38 #[.pointer (some ⟨p, 0, none⟩)] w fun e w' => e = .returned (.tuple #[]) ∧ DbAt w' p d ∧ Below base w w' := by
  obtain ⟨An, nn, cn, bm, nm, D, As, ns, cs, xs, hX⟩ := hd.ex
  obtain ⟨i0, hi0, hz0, hz1, hz2⟩ := info_parts info_cloneD
  obtain ⟨j0, hj0, hy0, hy1, hy2⟩ := info_parts infoR
  have hns1 : 0 < ns := by
    have h1 := hX.lenS.2; have h2 := ho.len; have h3 := ho.head
    cases hd : d.names with
    | nil => rw [hd] at h3; cases h3
    | cons a b => rw [hd] at h2; simp at h2; omega
  obtain ⟨g, HAs, hgB, hgw⟩ := hX.hs.form hns1
  subst HAs
  have hns64 : ns ≤ 64 := by have h1 := hX.lenS.2; have h2 := ho.len; have h3 := ho.few; omega
  obtain ⟨T, HT⟩ : ∃ T, Hid (d.sets.tail = T) := ⟨_, rfl⟩
  have hTl : T.length + 1 = ns := by have h1 := hX.lenS.2; have := HT.out; rw [← this, List.length_tail]; omega
  have HTl := Lib.hid hTl
  have HTS : Hid (lenS T ≤ 1114112) := Lib.hid (by have := rng_len ho ha; rw [← HT.out]; omega)
  have HTN : Hid (∀ (k : Nat) (s : List (Int × Int)), T[k]? = some s → NF s ∧ d.sets[k + 1]? = some s) := Lib.hid (fun k s hk => by
    have : d.sets[k + 1]? = some s := by rw [← HT.out] at hk; rw [List.getElem?_tail] at hk; exact hk
    exact ⟨ho.nf s (List.mem_of_getElem? this), this⟩)
  have HE := Lib.hid (And.intro ho ha)
  have hpw := hX.blk.lt
  have c2 := hX.blk.cell 2
  simp at c2
  clear ho ha hTl hd
  obtain ⟨t1, t2, t3, t4, t5, t6⟩ := types_ne
  have hgp : g ≠ p := hX.hs.off hX.blk t3 _ rfl
  clear t1 t2 t3 t4 t5 t6
  have hcap := hX.hs.cap.1
  by_cases hcs : cs = 1
  · go_enter Tryz.func38, Tryz.ntmps38
    go_wp2_with fail
    go_loopw [2, 13] (fun a v wr => ∃ (c : Nat) (Aa : Option Addr) (na ca : Nat) (Ar : Option Addr) (nr cr : Nat), a = .slice Aa na ca ∧ v = .int .i64 c ∧ c + 1 ≤ ns ∧ Blk wr p 70 #[.slice An nn cn, .map (some bm), .slice (some ⟨g, 0, none⟩) ns cs, .slice Ar nr cr] ∧
        Own wr w.heap.size 82 3 Ar nr cr ((gotR T c 0).map encD) ∧ Own wr w.heap.size 80 2 Aa na ca (((T.take c).flatten).map encR) ∧ w.grownBy wr (some p)) (fun _ v _ => ns - (intOf v).toNat)
    case atStart => exact ⟨0, none, 0, 0, none, 0, 0, rfl, rfl, by omega, hX.blk, by rw [gotR_first]; exact Own.nil_ _ _ _ _, by simp; exact Own.nil_ _ _ _ _, World.grownBy.refl _ _⟩
    case round =>
      obtain ⟨c, Aa, na, ca, Ar, nr, cr, rfl, rfl, hc, hb, hr, hal, hg⟩ := hrel
      have hszr := hg.size
      by_cases hlt : c + 1 < ns
      · exact absurd hlt (by omega)
      · obtain rfl : c + 1 = ns := by omega
        have HGe := Lib.hid (gotR_end (S := T) (c := c) (show ¬ c < T.length by have := HTl.out; omega))
        have HFe : Hid ((T.take c).flatten = T.flatten) := Lib.hid (by rw [List.take_of_length_le (by have := HTl.out; omega)])
        rw [HGe.out] at hr
        rw [HFe.out] at hal
        have hnr : nr ≤ 1114112 := by have h1 := hr.len; rw [List.length_map, entG_len] at h1; have := HTS.out; omega
        have hna : na ≤ 1114112 := by have h1 := hal.len; rw [List.length_map, lenS_flat] at h1; have := HTS.out; omega
        have k3 := hb.cell 3
        simp only [List.getElem?_toArray, List.getElem?_cons_zero, List.getElem?_cons_succ] at k3
        have hrp : ∀ a, Ar = some a → a.block ≠ p := hr.off hb rd_types.1
        have hra := hr.apart hal rd_types.2
        have hrb : ∀ a, Ar = some a → w.heap.size ≤ a.block := fun a ha => (hr.lt a ha).1
        go_wp2_with (go_at_call 74; go_must (refine (sortD_all w.heap.size nr cr Ar _ _ hr (by omega)).mono ?_); rintro e w2 ⟨rfl, l', HP, HR, ho2, hg2⟩)
        obtain rfl : l' = d.rng := rng_unique HE.out.1 HE.out.2 (by have := HP.out; unfold DbP.ents; rw [HT.out]; exact this) HR.out
        have b2 := hb.grown hg2 (fun e => by cases Ar with | none => cases e | some a => simp at e; exact hrp a rfl e.symm)
        have a2 := hal.grown hg2 (fun a ha e => by cases Ar with | none => cases e | some b => simp at e; exact hra b a rfl ha e.symm)
        have g2 := grown_far hg hg2 (fun q hq => by cases Ar with | none => cases hq | some b => simp at hq; subst hq; exact .inl (hrb b rfl))
        have k2 := b2.cell 2
        simp only [List.getElem?_toArray, List.getElem?_cons_zero, List.getElem?_cons_succ] at k2
        have HNot := Lib.hid (rNot_any Aa na ca T.flatten w2.drew ((a2.rd (by omega)).drew) (by have h1 := a2.len; rw [List.length_map] at h1; exact h1) (by omega))
        have s2 := hX.hs.old g2 (hX.hs.off hX.blk types_ne.2.2.1)
        have hs0 : ∃ u, w2.cell? ⟨g, 0, none⟩ = some u := by
          obtain ⟨y, hy⟩ : ∃ y, xs[0]? = some y := ⟨_, List.getElem?_eq_getElem (show 0 < xs.length by have := hX.lenS.1; omega)⟩
          exact ⟨_, s2.cell' rfl hy⟩
        obtain ⟨u, k0⟩ := hs0
        have f0 := s2.frozen 0
        clear hg2 HP HR
        go_wp2_with fail
        refine wp_region_noPanic ?_
        go_region_law (go_simp; go_at_call 76; refine HNot.out.mono ?_; rintro e wz ⟨A', n', c', rfl, ho', hb'⟩; have kz0 := cell_keep (w := w2.drew) k0 hb'; have kz2 := cell_keep (w := w2.drew) k2 hb'; have kzf := ((s2.drew).below hb').frozen 0)
        all_goals
          refine NoPanic.normal ?_
          have hcl := hX.closed (y := (A', n', c')) HE.out.1 g2 hB b2 ho2 (wz := wz) ⟨hb'.os, hb'.tape, hb'.output, hb'.size, hb'.block⟩ (by unfold DbP.rest; rw [HT.out]; exact ho')
          go_wp2
          first | exact ⟨_, results_none rfl _ _ _, rfl, hcl.1, hcl.2⟩ | exact ⟨_, rfl, results_none rfl _ _ _, rfl, hcl.1, hcl.2⟩ | exact ⟨rfl, _, results_none rfl _ _ _, rfl, hcl.1, hcl.2⟩
  · go_enter Tryz.func38, Tryz.ntmps38
    go_wp2_with fail
    go_loopw [2, 13] (fun a v wr => ∃ (c : Nat) (Aa : Option Addr) (na ca : Nat) (Ar : Option Addr) (nr cr : Nat), a = .slice Aa na ca ∧ v = .int .i64 c ∧ c + 1 ≤ ns ∧ Blk wr p 70 #[.slice An nn cn, .map (some bm), .slice (some ⟨g, 0, none⟩) ns cs, .slice Ar nr cr] ∧
        Own wr w.heap.size 82 3 Ar nr cr ((gotR T c 0).map encD) ∧ Own wr w.heap.size 80 2 Aa na ca (((T.take c).flatten).map encR) ∧ w.grownBy wr (some p)) (fun _ v _ => ns - (intOf v).toNat)
    case atStart => exact ⟨0, none, 0, 0, none, 0, 0, rfl, rfl, by omega, hX.blk, by rw [gotR_first]; exact Own.nil_ _ _ _ _, by simp; exact Own.nil_ _ _ _ _, World.grownBy.refl _ _⟩
    case round =>
      obtain ⟨c, Aa, na, ca, Ar, nr, cr, rfl, rfl, hc, hb, hr, hal, hg⟩ := hrel
      have hszr := hg.size
      by_cases hlt : c + 1 < ns
      · have hone : ¬ cs = 1 := by omega
        have hdc : decide (c < ns - 1) = true := decide_eq_true (by omega)
        obtain ⟨s, Hs⟩ : ∃ s, Hid (T[c]? = some s) := ⟨_, Lib.hid (List.getElem?_eq_getElem (show c < T.length by have := HTl.out; omega))⟩
        obtain ⟨HNF, Hd⟩ := HTN.out c s Hs.out
        obtain ⟨⟨yA, yn, yc⟩, Hy⟩ : ∃ y, Hid (xs[c + 1]? = some y) := ⟨_, Lib.hid (List.getElem?_eq_getElem (show c + 1 < xs.length by have := hX.lenS.1; omega))⟩
        have hoy : Own w base 80 2 yA yn yc (s.map encR) := hX.hx.own (c + 1) (yA, yn, yc) s Hy.out Hd
        have hyp := hoy.off hX.blk (Ne.symm types_ne.2.2.2.2.2)
        have hly : s.length = yn := by simpa using hoy.len
        have hny := own_nf_len hoy HNF
        have hfl := Lib.hid (flat_le T c)
        have hnal : na ≤ 1114112 := by have h1 := hal.len; rw [List.length_map] at h1; have := hfl.out; have := HTS.out; omega
        have hcell : wr.cell? ⟨g, c + 1, none⟩ = some (.slice yA yn yc) := (World.cell?_of_block (hg.block g hgw (fun e => hgp (by injection e)))).trans (hX.hs.cell' rfl Hy.out)
        have hcell' : wr.cell? ⟨g, 1 + c, none⟩ = some (.slice yA yn yc) := by rw [Nat.add_comm]; exact hcell
        have Hly := Lib.hid hly
        have HFN := Lib.hid (flat_next Hs.out)
        clear HNF Hd hly
        go_wp2_with fail
        go_loopw [20] (fun v wq => ∃ (k : Nat) (Ar : Option Addr) (nr cr : Nat), v = .int .i64 k ∧ k ≤ yn ∧ Blk wq p 70 #[.slice An nn cn, .map (some bm), .slice (some ⟨g, 0, none⟩) ns cs, .slice Ar nr cr] ∧
          Own wq w.heap.size 82 3 Ar nr cr ((gotR T c k).map encD) ∧ Own wq w.heap.size 80 2 Aa na ca (((T.take c).flatten).map encR) ∧ w.grownBy wq (some p)) (fun v _ => yn - (intOf v).toNat)
        case atStart => exact ⟨0, Ar, nr, cr, rfl, by omega, hb, hr, hal, hg⟩
        case round =>
          clear hcell hcell' hb hr hal hg
          obtain ⟨k, Ar, nr, cr, rfl, hk, hb, hr, hal, hg⟩ := hrel
          have hszq := hg.size
          have hoq := hoy.old hg hyp
          have hgl := Lib.hid (gotR_len (S := T) (c := c) (k := k))
          have hnr : nr ≤ 1114112 := by have h1 := hr.len; rw [List.length_map] at h1; have := hgl.out; have := HTS.out; omega
          by_cases hkl : k < yn
          · obtain ⟨b, off, lo, hi, rfl, Hx, hx1, hx2⟩ := (hoq.rd (by omega)).atR (k := k) (by have := Hly.out; omega)
            have HG := Lib.hid (gotR_in Hs.out Hx.out)
            have hbp : p < wr.heap.size := hb.lt
            have k3 := hb.cell 3
            simp only [List.getElem?_toArray, List.getElem?_cons_zero, List.getElem?_cons_succ] at k3
            have hxr : Rd (wr.alloc (.cells #[.int .i32 lo, .int .i32 hi] 80)) 2 (some ⟨wr.heap.size, 0, none⟩) [encR (lo, hi)] := Rd.new wr 80 2 (encR (lo, hi))
            obtain ⟨b5, o5, e5, hc5⟩ := hxr (by simp)
            injection e5 with e5; injection e5 with e51 e52 _
            subst e51; subst e52
            have q0 := hc5 0 0 (encR (lo, hi)) (.int .i32 lo) rfl rfl
            have q1 := hc5 0 1 (encR (lo, hi)) (.int .i32 hi) rfl rfl
            simp only [Nat.zero_mul, Nat.add_zero, Nat.zero_add] at q0 q1
            have hrp : ∀ a, Ar = some a → a.block ≠ p := hr.off hb rd_types.1
            have hra := hr.apart hal rd_types.2
            have HW : Hid (IntKind.i64.wrap ((c : Int) + 1) = (c : Int) + 1) := Lib.hid (IntWalk.i64_in _ (by omega))
            have hsz0 := hg.size
            have hab : ∀ a, Aa = some a → w.heap.size ≤ a.block := fun a ha => (hal.lt a ha).1
            have hrb : ∀ a, Ar = some a → w.heap.size ≤ a.block := fun a ha => (hr.lt a ha).1
            clear hxr hc5
            go_wp2_with fail
            refine wp_region_noPanic ?_
            go_region_law (refine step_app rfl (.tmp 28) (.tmp 36) _ rfl w.heap.size 82 i0 _ 3 16 Tryz.underlying64 hi0 hz0 hz1 hz2 rfl (by omega) Ar nr cr ((gotR T c k).map encD) rfl ((hr.alloc _).drew.alloc _) _ 1 1 [encD (lo, hi, c + 1)] rfl rfl (Rd.newAt (by simp) (by simp [encD, HW.out])) (encD_ok [(lo, hi, c + 1)]) (by unfold maxLen; omega) (by omega) (by simp; omega) ?_; intro A3 c3 w3 ho3 hg3 hA3; have b3 : Blk w3 p 70 #[.slice An nn cn, .map (some bm), .slice (some ⟨g, 0, none⟩) ns cs, .slice Ar nr cr] := (((hb.alloc _).drew).alloc _).grown hg3 (fun e => by cases Ar with | none => cases e | some a => simp at e; exact hrp a rfl e.symm); have k33 := b3.cell 3; have f33 := b3.frozen 3; simp only [List.getElem?_toArray, List.getElem?_cons_zero, List.getElem?_cons_succ] at k33)
            all_goals
              refine NoPanic.normal ?_
              have hg4 : wr.grownBy w3 (Ar.map (·.block)) := grown_alloc (o := .cells #[.int .i32 lo, .int .i32 hi] 80) (grown_alloc ⟨hg3.os, hg3.tape, hg3.output, hg3.size, hg3.block⟩)
              have Ho3 : Own w3 w.heap.size 82 3 A3 (nr + 1) c3 ((gotR T c (k + 1)).map encD) := by rw [HG.out, List.map_append]; exact ho3
              have ha3 := hal.grown hg4 (fun a ha e => by cases Ar with | none => cases e | some b => simp at e; exact hra b a rfl ha e.symm)
              have hw3 := grown_far hg hg4 (fun q hq => by cases Ar with | none => cases hq | some b => simp at hq; subst hq; exact .inl (hrb b rfl))
              clear ho3 hg3 hg4 HG
              go_wp2
              go_roundw
              case rel =>
                exact ⟨k + 1, A3, nr + 1, c3, by go_num, by omega, by have := b3.set_ 3 (.slice A3 (nr + 1) c3); simpa using this, Ho3.setCell (p := ⟨p, 3, none⟩) (fun a ha => Ho3.off b3 rd_types.1 a ha) _, ha3.setCell (p := ⟨p, 3, none⟩) (fun a ha => ha3.off b3 (Ne.symm types_ne.2.2.2.2.2) a ha) _, only_setCell (p := ⟨p, 3, none⟩) hw3 (.inl rfl) _⟩
              case measure => simp [intOf]; omega
          · have hky : yn = k := by omega
            subst hky
            have HGo := Lib.hid (gotR_out Hs.out (show ¬ yn < s.length by have := Hly.out; omega))
            have hls : s.length = yn := Hly.out
            have hap : ∀ a, Aa = some a → a.block ≠ p := hal.off hb (Ne.symm types_ne.2.2.2.2.2)
            have hra := hr.apart hal rd_types.2
            have hab : ∀ a, Aa = some a → w.heap.size ≤ a.block := fun a ha => (hal.lt a ha).1
            have hfl2 := Lib.hid (flat_le T (c + 1))
            have hbound : na + yn ≤ 1114112 := by
              have h1 := hal.len; rw [List.length_map] at h1
              have h2 := hfl2.out; rw [HFN.out, List.length_append] at h2; have := HTS.out; omega
            go_wp2_with (at_builtin; go_must (refine wpList_app rfl (.tmp 41) (.tmp 42) _ rfl w.heap.size 80 j0 _ 2 8 Tryz.underlying37 hj0 hy0 hy1 hy2 rfl (by omega) Aa na ca (((T.take c).flatten).map encR) rfl hal yA yn yc (s.map encR) rfl (by rw [List.length_map]; exact hls) (hoq.rd (by omega)) (encR_ok s) (by unfold maxLen; omega) (by omega) (by omega) ?_); intro A3 c3 w3 ho3 hg3 hA3)
            have Ho3 : Own w3 w.heap.size 80 2 A3 (na + yn) c3 (((T.take (c + 1)).flatten).map encR) := by rw [HFN.out, List.map_append]; exact ho3
            have b3 := hb.grown hg3 (fun e => by cases Aa with | none => cases e | some a => simp at e; exact hap a rfl e.symm)
            have r3 := hr.grown hg3 (fun a ha e => by cases Aa with | none => cases e | some b => simp at e; exact hra a b ha rfl e)
            have g3 := grown_far hg hg3 (fun q hq => by cases Aa with | none => cases hq | some b => simp at hq; subst hq; exact .inl (hab b rfl))
            rw [HGo.out] at r3
            clear ho3 hg3
            go_roundw
            case rel => exact ⟨c + 1, A3, na + yn, c3, Ar, nr, cr, rfl, by go_num, by omega, b3, r3, Ho3, g3⟩
            case measure => simp [intOf]; omega
      · obtain rfl : c + 1 = ns := by omega
        have HGe := Lib.hid (gotR_end (S := T) (c := c) (show ¬ c < T.length by have := HTl.out; omega))
        have HFe : Hid ((T.take c).flatten = T.flatten) := Lib.hid (by rw [List.take_of_length_le (by have := HTl.out; omega)])
        rw [HGe.out] at hr
        rw [HFe.out] at hal
        have hnr : nr ≤ 1114112 := by have h1 := hr.len; rw [List.length_map, entG_len] at h1; have := HTS.out; omega
        have hna : na ≤ 1114112 := by have h1 := hal.len; rw [List.length_map, lenS_flat] at h1; have := HTS.out; omega
        have k3 := hb.cell 3
        simp only [List.getElem?_toArray, List.getElem?_cons_zero, List.getElem?_cons_succ] at k3
        have hrp : ∀ a, Ar = some a → a.block ≠ p := hr.off hb rd_types.1
        have hra := hr.apart hal rd_types.2
        have hrb : ∀ a, Ar = some a → w.heap.size ≤ a.block := fun a ha => (hr.lt a ha).1
        go_wp2_with (go_at_call 74; go_must (refine (sortD_all w.heap.size nr cr Ar _ _ hr (by omega)).mono ?_); rintro e w2 ⟨rfl, l', HP, HR, ho2, hg2⟩)
        obtain rfl : l' = d.rng := rng_unique HE.out.1 HE.out.2 (by have := HP.out; unfold DbP.ents; rw [HT.out]; exact this) HR.out
        have b2 := hb.grown hg2 (fun e => by cases Ar with | none => cases e | some a => simp at e; exact hrp a rfl e.symm)
        have a2 := hal.grown hg2 (fun a ha e => by cases Ar with | none => cases e | some b => simp at e; exact hra b a rfl ha e.symm)
        have g2 := grown_far hg hg2 (fun q hq => by cases Ar with | none => cases hq | some b => simp at hq; subst hq; exact .inl (hrb b rfl))
        have k2 := b2.cell 2
        simp only [List.getElem?_toArray, List.getElem?_cons_zero, List.getElem?_cons_succ] at k2
        have HNot := Lib.hid (rNot_any Aa na ca T.flatten w2.drew ((a2.rd (by omega)).drew) (by have h1 := a2.len; rw [List.length_map] at h1; exact h1) (by omega))
        have s2 := hX.hs.old g2 (hX.hs.off hX.blk types_ne.2.2.1)
        have hs0 : ∃ u, w2.cell? ⟨g, 0, none⟩ = some u := by
          obtain ⟨y, hy⟩ : ∃ y, xs[0]? = some y := ⟨_, List.getElem?_eq_getElem (show 0 < xs.length by have := hX.lenS.1; omega)⟩
          exact ⟨_, s2.cell' rfl hy⟩
        obtain ⟨u, k0⟩ := hs0
        have f0 := s2.frozen 0
        clear hg2 HP HR
        go_wp2_with fail
        refine wp_region_noPanic ?_
        go_region_law (go_simp; go_at_call 76; refine HNot.out.mono ?_; rintro e wz ⟨A', n', c', rfl, ho', hb'⟩; have kz0 := cell_keep (w := w2.drew) k0 hb'; have kz2 := cell_keep (w := w2.drew) k2 hb'; have kzf := ((s2.drew).below hb').frozen 0)
        all_goals
          refine NoPanic.normal ?_
          have hcl := hX.closed (y := (A', n', c')) HE.out.1 g2 hB b2 ho2 (wz := wz) ⟨hb'.os, hb'.tape, hb'.output, hb'.size, hb'.block⟩ (by unfold DbP.rest; rw [HT.out]; exact ho')
          go_wp2
          first | exact ⟨_, results_none rfl _ _ _, rfl, hcl.1, hcl.2⟩ | exact ⟨_, rfl, results_none rfl _ _ _, rfl, hcl.1, hcl.2⟩ | exact ⟨rfl, _, results_none rfl _ _ _, rfl, hcl.1, hcl.2⟩
end Go.Proofs.YtejccafolfeabaaGreatDoor

