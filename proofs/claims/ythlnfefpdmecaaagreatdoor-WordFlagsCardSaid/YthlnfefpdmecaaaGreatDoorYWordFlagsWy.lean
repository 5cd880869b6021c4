/-
  kerflaw12.WordHolds, walked. Printed by gen_wholds.py.
-/
import Derived.Deep.RegionHeld3
import Derived.Test.YthlnfefpdmecaaaGreatDoorYWordFlagsWo
import Derived.Test.YthlnfefpdmecaaaGreatDoorYWordFlags0c
import Derived.Test.YthlnfefpdmecaaaGreatDoorYWordFlags0b
namespace Go.Proofs.YthlnfefpdmecaaaGreatDoor
open Go.RowKit

/-- The name of a class. -/
def wnm (k : Nat) : List UInt8 := (wordD.names[k]?).getD []
theorem nmW_wnm (r : Int) : nmW r = wnm (gW r) := rfl
theorem glued_is : ∀ i j : Nat, i < 20 → j < 20 → gluedV (bytesOf (wnm i)) (bytesOf (wnm j)) = wGlue (i : Int) (j : Int) := by
  intro i j hi hj
  unfold gluedV
  rw [ByteArray.toList_eq, ByteArray.toList_eq, bytesOf_list, bytesOf_list]
  revert j
  revert i
  decide
theorem ends_is : ∀ i : Nat, i < 20 → ((bytesOf (wnm i)).toList == [67, 114]) = decide (i = 1) ∧ ((bytesOf (wnm i)).toList == [76, 102]) = decide (i = 2) ∧ ((bytesOf (wnm i)).toList == [78, 101, 119, 108, 105, 110, 101]) = decide (i = 3) := by
  intro i hi
  rw [ByteArray.toList_eq, bytesOf_list]
  revert i
  decide
theorem is_cut {s : ByteArray} {k : Nat} {x : Nat × Nat × Nat} (hx : (runesP s)[k]? = some x) (hk : k ≠ 0) : ((wBounds gW s).any fun y => ((x.2.1 : Nat) : Int) == (y : Int)) = wCut (wCls gW s) k := by
  have h := wBounds_at (g := gW) hx
  rw [Bool.eq_iff_iff, List.any_eq_true]
  constructor
  · rintro ⟨y, hy, e⟩
    have e1 : ((x.2.1 : Nat) : Int) = (y : Int) := by simpa using e
    have : x.2.1 = y := by omega
    rw [← this] at hy
    rcases h.1 hy with h0 | h0
    · exact absurd h0 hk
    · exact h0
  · intro h0
    exact ⟨x.2.1, h.2 (.inr h0), by simp⟩
theorem cls_getD {s : ByteArray} {k : Nat} {x : Nat × Nat × Nat} (hx : (runesP s)[k]? = some x) : (wCls gW s).getD k 0 = (gW (x.1 : Nat) : Int) := by
  unfold wCls
  rw [List.getD_eq_getElem?_getD, List.getElem?_map, hx]; rfl
theorem wEnd_is : ∀ i : Nat, i < 20 → ∀ j : Nat, j < 20 → (wEnd (i : Int) || wEnd (j : Int)) = (decide (i = 1) || decide (i = 2) || decide (i = 3) || decide (j = 1) || decide (j = 2) || decide (j = 3)) := by decide
/-- What holds of two runes side by side. -/
theorem holds_plain {s : ByteArray} {k : Nat} {x y : Nat × Nat × Nat} (hx : (runesP s)[k]? = some x) (hy : (runesP s)[k + 1]? = some y) :
    (wGlue (gW (x.1 : Nat)) (gW (y.1 : Nat)) && ((wBounds gW s).any fun z => ((y.2.1 : Nat) : Int) == (z : Int))) = false ∧
      ((wEnd (gW (x.1 : Nat)) || wEnd (gW (y.1 : Nat))) = true → ((wBounds gW s).any fun z => ((y.2.1 : Nat) : Int) == (z : Int)) = !(decide (gW (x.1 : Nat) = 1) && decide (gW (y.1 : Nat) = 2))) := by
  rw [is_cut hy (Nat.succ_ne_zero k)]
  have h1 := cls_getD hx
  have h2 := cls_getD hy
  have hlen : k + 1 < (wCls gW s).length := by
    rw [wCls_len]
    exact (List.getElem?_eq_some_iff.1 hy).1
  constructor
  · cases hg : wGlue (gW (x.1 : Nat)) (gW (y.1 : Nat)) with
    | false => rfl
    | true => rw [wCut_glue hlen (by rw [h1, h2]; exact hg)]; rfl
  · intro he
    rw [wCut_end (by rw [h1, h2]; rw [Bool.or_eq_true] at he; exact he), h1, h2]
    have e1 : ((gW (x.1 : Nat) : Nat) : Int) = 1 ↔ gW (x.1 : Nat) = 1 := by omega
    have e2 : ((gW (y.1 : Nat) : Nat) : Int) = 2 ↔ gW (y.1 : Nat) = 2 := by omega
    rw [decide_eq_decide.2 (and_congr e1 e2), Bool.decide_and]

theorem rd_at3 {w : World} {A : Option Addr} {l : List (Nat × Nat × Nat)} {k : Nat} {x : Nat × Nat × Nat} (h : Rd w 3 A (l.map encRn)) (hk : l[k]? = some x) :
    ∃ b off, A = some ⟨b, off, none⟩ ∧ w.cell? ⟨b, off + k * 3, none⟩ = some (.int .i32 (x.1 : Nat)) ∧ w.cell? ⟨b, off + k * 3 + 1, none⟩ = some (.int .i64 (x.2.1 : Nat)) ∧ w.cell? ⟨b, off + k * 3 + 2, none⟩ = some (.int .i64 (x.2.2 : Nat)) := by
  obtain ⟨b, off, rfl, hc⟩ := h (by intro e; cases l with | nil => simp at hk | cons _ _ => simp at e)
  have h0 := hc k 0 (encRn x) (.int .i32 (x.1 : Nat)) (by simp [hk]) rfl
  have h1 := hc k 1 (encRn x) (.int .i64 (x.2.1 : Nat)) (by simp [hk]) rfl
  have h2 := hc k 2 (encRn x) (.int .i64 (x.2.2 : Nat)) (by simp [hk]) rfl
  exact ⟨b, off, rfl, by simpa using h0, h1, h2⟩
set_option maxRecDepth 100000 in
set_option maxHeartbeats 16000000 in
theorem pWordHolds_any (s : ByteArray) (w : World) (hE : Env w) (hs : s.size ≤ 140737488355328) :
    Calls Tryz.prog 5 #[.string s] w fun e w' => e = .returned (.bool true) ∧ Below w.heap.size w w' := by
  have HLv := Lib.hid (fun W (h : Env W) => klive_any W h)
  by_cases h1 : 70 < s.size
  · have g1 : (70 : Int) < (s.size : Int) := by omega
    clear h1
    go_enter Tryz.func5, Tryz.ntmps5
    go_wp2_with fail
    refine (HLv.out _ hE).mono ?_
    rintro e w1 ⟨rfl, hb⟩
    go_wp2
    go_ret
    exact ⟨rfl, hb⟩
  have g1 : ¬ (70 : Int) < (s.size : Int) := by omega
  have hsz : s.size ≤ 70 := by omega
  have H1 := Lib.hid (kDbR_any w)
  have H2 := Lib.hid (fun W => sRunes_any s W (by omega))
  obtain ⟨X, HX⟩ : ∃ L, Hid (runesP s = L) := ⟨_, Lib.hid rfl⟩
  have hXz : X.length ≤ 70 := by rw [← HX.out]; exact Nat.le_trans (runesP_len s) hsz
  have HIs := Lib.hid (fun a W (h : Env W) => kIs_any s a W h (by omega))
  clear h1 hs
  go_enter Tryz.func5, Tryz.ntmps5
  go_wp2_with fail
  refine H1.out.mono ?_
  rintro e w1 ⟨p, x, rfl, hd, hb1⟩
  go_wp2_with fail
  refine (H2.out w1).mono ?_
  rw [HX.out]
  rintro e w2 ⟨A, m, c, rfl, ho, hb2⟩
  have hm : X.length = m := by have := ho.len; simpa using this
  have rd := ho.rd (by decide)
  have hb3 := below_two hb1 hb2
  have Hm := Lib.hid hm
  have hmz : m ≤ 70 := by omega
  have HNm := Lib.hid (fun (r : Int) W (h : Below w2.heap.size w2 W) => kname_any w.heap.size p x r W ((hd.below hb2).below h))
  have hE2 := Lib.hid (hE.below hb3)
  clear H1 H2 hd ho hm hb1 hb2 hE
  go_wp2_with fail
  go_loopw [5] (fun v wr => ∃ i : Nat, v = .int .i64 i ∧ 1 ≤ i ∧ i ≤ m + 1 ∧ Below w2.heap.size w2 wr) (fun v _ => m + 1 - (intOf v).toNat)
  case atStart => exact ⟨1, rfl, by omega, by omega, Below.refl _ _⟩
  case round =>
    obtain ⟨j, rfl, hj1, hj, hbr⟩ := hrel
    by_cases hlt : j < m
    · obtain ⟨k, Hk⟩ : ∃ k, Hid (j = k + 1) := ⟨j - 1, Lib.hid (by omega)⟩
      have e1 : (j : Int) - 1 = (k : Int) := by have := Hk.out; omega
      have hkm : k < m := by have := Hk.out; omega
      obtain ⟨⟨rx, ax, bx⟩, Hx⟩ : ∃ x, Hid (X[k]? = some x) := ⟨_, Lib.hid (List.getElem?_eq_getElem (by have := Hm.out; omega))⟩
      obtain ⟨⟨ry, ay, by_⟩, Hy⟩ : ∃ x, Hid (X[j]? = some x) := ⟨_, Lib.hid (List.getElem?_eq_getElem (by have := Hm.out; omega))⟩
      have HP := Lib.hid (holds_plain (s := s) (k := k) (x := (rx, ax, bx)) (y := (ry, ay, by_)) (by rw [HX.out]; exact Hx.out) (by rw [HX.out, ← Hk.out]; exact Hy.out))
      simp only at HP
      obtain ⟨is, HI⟩ : ∃ q, Hid (((wBounds gW s).any fun z => ((ay : Nat) : Int) == (z : Int)) = q) := ⟨_, Lib.hid rfl⟩
      have HQ : Hid (∀ W, Env W → Calls Tryz.prog 24 #[.string s, .int .i64 (ay : Nat)] W fun e w' => e = .returned (.bool is) ∧ Below W.heap.size W w') := Lib.hid fun W h => by
        have h1 := HIs.out (ay : Int) W h
        rw [List.any_map] at h1
        have h2 : (wBounds gW s).any ((fun x => ((ay : Nat) : Int) == x) ∘ (Nat.cast : Nat → Int)) = is := HI.out
        rw [h2] at h1
        exact h1
      simp only [HI.out] at HP
      obtain ⟨bk, off, rfl, c0, c1, c2⟩ := rd_at3 rd Hx.out
      obtain ⟨bk', off', eB, d0, d1, d2⟩ := rd_at3 rd Hy.out
      obtain ⟨rfl, rfl⟩ : bk = bk' ∧ off = off' := by injection eB with e; injection e with e1 e2; exact ⟨e1, e2⟩
      simp only at c0 d0 d1
      replace c0 := cell_keep c0 hbr
      replace d0 := cell_keep d0 hbr
      replace d1 := cell_keep d1 hbr
      have HA1 := Lib.hid (congrArg bytesOf (nmW_wnm (rx : Int)))
      have HA2 := Lib.hid (congrArg bytesOf (nmW_wnm (ry : Int)))
      have hp20 := gW_lt (rx : Nat)
      have hq20 := gW_lt (ry : Nat)
      generalize gW (rx : Nat) = p1 at HA1 HP hp20
      generalize gW (ry : Nat) = q1 at HA2 HP hq20
      obtain ⟨na, Hna⟩ : ∃ n, Hid (bytesOf (wnm p1) = n) := ⟨_, Lib.hid rfl⟩
      obtain ⟨nb, Hnb⟩ : ∃ n, Hid (bytesOf (wnm q1) = n) := ⟨_, Lib.hid rfl⟩
      rw [Hna.out] at HA1
      rw [Hnb.out] at HA2
      have HG := Lib.hid (glued_is p1 q1 hp20 hq20)
      have HEa := Lib.hid (ends_is p1 hp20)
      have HEb := Lib.hid (ends_is q1 hq20)
      have HEe := Lib.hid (wEnd_is p1 hp20 q1 hq20)
      rw [Hna.out, Hnb.out] at HG
      rw [Hna.out] at HEa
      rw [Hnb.out] at HEb
      rw [HEe.out] at HP
      obtain ⟨g, Hg⟩ : ∃ q, Hid (wGlue (p1 : Int) (q1 : Int) = q) := ⟨_, Lib.hid rfl⟩
      rw [Hg.out] at HG HP
      obtain ⟨a1, Ha1⟩ : ∃ q, Hid (decide (p1 = 1) = q) := ⟨_, Lib.hid rfl⟩
      obtain ⟨a2, Ha2⟩ : ∃ q, Hid (decide (p1 = 2) = q) := ⟨_, Lib.hid rfl⟩
      obtain ⟨a3, Ha3⟩ : ∃ q, Hid (decide (p1 = 3) = q) := ⟨_, Lib.hid rfl⟩
      obtain ⟨b1, Hb1⟩ : ∃ q, Hid (decide (q1 = 1) = q) := ⟨_, Lib.hid rfl⟩
      obtain ⟨b2, Hb2⟩ : ∃ q, Hid (decide (q1 = 2) = q) := ⟨_, Lib.hid rfl⟩
      obtain ⟨b3, Hb3⟩ : ∃ q, Hid (decide (q1 = 3) = q) := ⟨_, Lib.hid rfl⟩
      rw [Ha1.out, Ha2.out, Ha3.out] at HEa
      rw [Hb1.out, Hb2.out, Hb3.out] at HEb
      rw [Ha1.out, Ha2.out, Ha3.out, Hb1.out, Hb2.out, Hb3.out] at HP
      obtain ⟨en, Hen⟩ : ∃ q, Hid ((a1 || a2 || a3 || b1 || b2 || b3) = q) := ⟨_, Lib.hid rfl⟩
      rw [Hen.out] at HP
      have hbn := hbr
      have q1' : (k : Int) < (m : Int) := by omega
      have q2' : (0 : Int) ≤ (k : Int) := by omega
      have q3' : (j : Int) < (m : Int) := by omega
      have q4' : IntKind.i64.wrap ((j : Int) - 1) = (j : Int) - 1 := IntWalk.i64_in _ (by omega)
      have q5' : IntKind.i64.wrap (k : Int) = (k : Int) := IntWalk.i64_in _ (by omega)
      have HST := Lib.hid (fun (V : World) (h : Below wr.heap.size wr V) => And.intro (cell_keep c0 h) (And.intro (cell_keep d0 h) (And.intro (cell_keep d1 h) h)))
      have HBw := Lib.hid (fun (V : World) (h : Below wr.heap.size wr V) => below_two hbr h)
      clear c1 c2 d2 eB hp20 hq20 Hx Hy Hk HI HEe Hg Hna Hnb Ha1 Ha2 Ha3 Hb1 Hb2 Hb3 HIs hbn
      go_upto_region 8 with fail
      go_cut [6, 7] from 23 to 83 (fun va vb wx => va = .string na ∧ vb = .string nb ∧ wx.cell? ⟨bk, off + j * 3 + 1, none⟩ = some (.int .i64 (ay : Nat)) ∧ Below wr.heap.size wr wx)
      case first =>
        go_region_held3 (fun V => V.cell? ⟨bk, off + k * 3, none⟩ = some (.int .i32 (rx : Nat)) ∧ V.cell? ⟨bk, off + j * 3, none⟩ = some (.int .i32 (ry : Nat)) ∧ V.cell? ⟨bk, off + j * 3 + 1, none⟩ = some (.int .i64 (ay : Nat)) ∧ Below wr.heap.size wr V)
          (first | exact HST.out _ Ba | exact HST.out _ (Below.refl _ _) | exact HST.out _ (below_drewN (Below.refl _ _) 1))
          (first
            | (go_at_call 21; go_split_ands; refine (HNm.out _ _ (HBw.out _ (by assumption))).mono ?_; rintro e wa ⟨rfl, hz⟩; have Ba := below_two (by assumption) hz))
        all_goals
          go_wp2_with fail
          go_meet
          exact ⟨by rw [← HA1.out], by rw [← HA2.out], (HST.out _ Ba).2.2.1, Ba⟩
      case rest =>
        clear c0 d0 d1 HST HA1 HA2
        obtain ⟨rfl, rfl, d1, hbx⟩ := hcut
        have hbc := below_two hbr hbx
        clear hbx
        go_wp2_with fail
        refine (HQ.out _ (hE2.out.below hbc)).mono ?_
        rintro e wi ⟨rfl, hbi⟩
        have hbci := below_two hbc hbi
        clear d1 hbi HQ
        go_upto_region 10 with fail
        go_cut [50] from 23 to 83 (fun v wx => v = .bool false ∧ wi = wx)
        case first =>
          cases g with
          | true =>
            have hf : is = false := by have := HP.out.1; simpa using this
            subst hf
            go_wp2_with fail
            refine (kglued_any _ _ _).mono ?_
            rw [HG.out]
            rintro e w' ⟨rfl, rfl⟩
            go_wp2
            go_meet
            exact ⟨rfl, rfl⟩
          | false =>
            go_wp2_with fail
            refine (kglued_any _ _ _).mono ?_
            rw [HG.out]
            rintro e w' ⟨rfl, rfl⟩
            go_wp2
            go_meet
            exact ⟨rfl, rfl⟩
        case rest =>
          obtain ⟨rfl, rfl⟩ := hcut
          go_upto_region 12 with fail
          go_cut [9] from 23 to 83 (fun v wx => v = .bool en ∧ wi = wx)
          case first =>
            obtain ⟨t1, t2, t3⟩ := HEa.out
            obtain ⟨u1, u2, u3⟩ := HEb.out
            cases a1 with
            | true =>
              go_wp2
              go_meet
              exact ⟨by rw [← Hen.out]; rfl, rfl⟩
            | false =>
              cases a2 with
              | true =>
                go_wp2
                go_meet
                exact ⟨by rw [← Hen.out]; rfl, rfl⟩
              | false =>
                cases a3 with
                | true =>
                  go_wp2
                  go_meet
                  exact ⟨by rw [← Hen.out]; rfl, rfl⟩
                | false =>
                  cases b1 with
                  | true =>
                    go_wp2
                    go_meet
                    exact ⟨by rw [← Hen.out]; rfl, rfl⟩
                  | false =>
                    cases b2 with
                    | true =>
                      go_wp2
                      go_meet
                      exact ⟨by rw [← Hen.out]; rfl, rfl⟩
                    | false =>
                      cases b3 with
                      | true =>
                        go_wp2
                        go_meet
                        exact ⟨by rw [← Hen.out]; rfl, rfl⟩
                      | false =>
                        go_wp2
                        go_meet
                        exact ⟨by rw [← Hen.out]; rfl, rfl⟩
          case rest =>
            obtain ⟨rfl, rfl⟩ := hcut
            go_upto_region 13 with fail
            go_cut [83] from 23 to 83 (fun v wx => v = .bool false ∧ wi = wx)
            case first =>
              cases en with
              | false =>
                go_wp2
                go_meet
                exact ⟨rfl, rfl⟩
              | true =>
                have hi := HP.out.2 rfl
                obtain ⟨t1, -, -⟩ := HEa.out
                obtain ⟨-, u2, -⟩ := HEb.out
                cases a1 with
                | false =>
                  simp only [Bool.false_and, Bool.not_false] at hi
                  subst hi
                  go_wp2
                  go_meet
                  exact ⟨rfl, rfl⟩
                | true =>
                  cases b2 with
                  | false =>
                    simp only [Bool.and_false, Bool.not_false] at hi
                    subst hi
                    go_wp2
                    go_meet
                    exact ⟨rfl, rfl⟩
                  | true =>
                    simp only [Bool.and_self, Bool.not_true] at hi
                    subst hi
                    go_wp2
                    go_meet
                    exact ⟨rfl, rfl⟩
            case rest =>
              obtain ⟨rfl, rfl⟩ := hcut
              go_wp2
              go_roundw
              case rel => exact ⟨j + 1, by go_num, by omega, by omega, hbci⟩
              case measure => simp [intOf]; omega
    · have hge : ¬ (j : Int) < (m : Int) := by omega
      go_wp2_with fail
      refine (HLv.out _ (hE2.out.below hbr)).mono ?_
      rintro e w7 ⟨rfl, hb⟩
      go_wp2
      go_ret
      exact ⟨rfl, below_two (below_two hb3 hbr) hb⟩
end Go.Proofs.YthlnfefpdmecaaaGreatDoor

