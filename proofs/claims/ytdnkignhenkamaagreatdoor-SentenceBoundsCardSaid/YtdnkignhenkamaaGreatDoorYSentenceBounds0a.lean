/- -/
import Derived.Test.YtdnkignhenkamaaGreatDoorS7a
namespace Go.Proofs.YtdnkignhenkamaaGreatDoor
open Go.RowKit
set_option maxRecDepth 100000 in
set_option maxHeartbeats 8000000 in
theorem nSentBounds_any (s : ByteArray) (w : World) (hE : Env w) (hs : s.size ≤ 140737488355328) :
    Calls Tryz.prog 10 #[.string s] w fun e w' => e = .returned (.bool true) ∧ Below w.heap.size w w' := by
  obtain ⟨i0, hi0, hz0, hz1, hz2⟩ := info_parts infoInt
  have HLv := Lib.hid (fun W (h : Env W) => nlive_any W h)
  by_cases h1 : 100 < s.size
  · have g1 : (100 : Int) < (s.size : Int) := by omega
    go_enter Tryz.func10, Tryz.ntmps10
    go_wp2_with fail
    refine (HLv.out _ hE).mono ?_
    rintro e w1 ⟨rfl, hb⟩
    go_wp2
    go_ret
    exact ⟨rfl, hb⟩
  have g1 : ¬ (100 : Int) < (s.size : Int) := by omega
  have hsz : s.size ≤ 100 := by omega
  have HG := Lib.hid (fun W (h : Env W) => nBounds_any s W h (by omega))
  have HC := Lib.hid (fun W (h : Env W) => nCount_any s W h (by omega))
  have HN := Lib.hid (fun W => dNew_any W)
  have HB := Lib.hid (fun base pb W (h : BrkB W base pb sentsD rulesS false) => bBoundsS_any base pb s W h (by omega))
  have HP := Lib.hid (fun A B n c e W (hA : Rd W 1 A ((boundsS s).map encN)) (hB : Rd W 1 B ((boundsS s).map encN)) (hl : (boundsS s).length = n) => zPlaces_same A B n c e (boundsS s) W hA hB hl (by have := boundsS_len s; omega))
  have hL := boundsS_len s
  have HCn : Hid (countS s = (boundsS s).length - 1) := Lib.hid rfl
  generalize boundsS s = L at HG HB HP hL HCn
  clear h1 hs
  go_enter Tryz.func10, Tryz.ntmps10
  go_wp2_with fail
  refine (HG.out w hE).mono ?_
  rintro e w1 ⟨A, n, c, rfl, ho, hb1⟩
  obtain rfl : L.length = n := by have := ho.len; simpa using this
  have hE1 := hE.below hb1
  go_wp2_with fail
  refine (HN.out w1).mono ?_
  rintro e w2 ⟨pb, rfl, hbk, hb2⟩
  have hb12 := below_two hb1 hb2
  go_wp2_with fail
  refine (HB.out _ _ w2 hbk).mono ?_
  rintro e w3 ⟨A2, n2, c2, rfl, ho2, hb3⟩
  obtain rfl : L.length = n2 := by have := ho2.len; simpa using this
  have hb13 := below_two hb12 hb3
  have ho3 := (ho.below hb2).below hb3
  have HP1 := Lib.hid (HP.out A A2 _ c c2 w3 (ho3.rd (by decide)) (ho2.rd (by decide)) rfl)
  clear hbk ho hb1 hb2 hb3 hb12
  go_wp2_with fail
  refine HP1.out.mono ?_
  rintro e w4 ⟨rfl, hb4⟩
  have hb14 := below_two hb13 hb4
  have ho4 := ho3.below hb4
  have hz4 := hb14.size
  clear HP1 ho2 ho3 hb13 hb4
  go_wp2_with (at_builtin; go_must (refine wpList_app rfl (.tmp 18) (.tmp 19) _ rfl w4.heap.size 3 i0 _ 1 8 Tryz.underlying23 hi0 hz0 hz1 hz2 rfl (by omega) (some ⟨w4.heap.size, 0, none⟩) 0 0 [] rfl (Own.lit w4 w4.heap.size 3 1 (Nat.le_refl _)) A L.length c (L.map encN) rfl (by rw [List.length_map]) ((ho4.rd (by decide)).alloc _) (encN_ok' L) (by unfold maxLen; omega) (by omega) (by simp) ?_); intro A5 c5 w5 ho5 hg5 hA5)
  have hb5 : Below w4.heap.size w4 w5 := below_app ((Below.refl _ _).alloc (Nat.le_refl _) _) hg5 (by simp) (fun a ha => by injection ha with ha; subst ha; exact Nat.le_refl _)
  rw [Nat.zero_add, List.nil_append] at ho5
  have ho6 := ho4.below hb5
  have hb15 := below_two hb14 hb5
  have hA4 : ∀ a, A = some a → a.block < w4.heap.size := fun a ha => (ho4.lt a ha).2
  rw [← encL_cast] at ho6
  clear ho4 hg5 hA5 hb14
  go_wp2_with fail
  go_loopw [5] (fun v wr => ∃ (i : Nat) (M : List Int), v = .int .i64 i ∧ i ≤ L.length ∧ M.length = L.length ∧ Own wr w.heap.size 3 1 A L.length c (M.map encL) ∧ Own wr w4.heap.size 3 1 A5 L.length c5 (L.map encN) ∧ Below w.heap.size w wr) (fun v _ => L.length - (intOf v).toNat)
  case atStart => exact ⟨0, _, rfl, by omega, by rw [List.length_map], ho6, ho5, hb15⟩
  case round =>
    clear ho6 ho5 hb15 hb5
    obtain ⟨i, M, rfl, hi, hM, hoA, ho5, hbr⟩ := hrel
    by_cases hlt : i < L.length
    · obtain ⟨g, rfl, hg1, hg2⟩ := hoA.form (by omega)
      obtain ⟨z, hz⟩ : ∃ z, M[i]? = some z := ⟨_, List.getElem?_eq_getElem (by omega)⟩
      have hc := hoA.cellL hz
      have hf := hoA.frozen i
      have hst := hoA.storedL (k := i) (by omega) (-9)
      have ho5' := ho5.setCell (p := ⟨g, i, none⟩) (fun a ha e => by have := (ho5.lt a ha).1; have := hA4 _ rfl; simp only at e this; omega) (.int .i64 (-9))
      have hbr' := hbr.setCell (p := ⟨g, i, none⟩) hg1 (.int .i64 (-9))
      clear hoA hz
      go_wp2
      go_roundw
      case rel => exact ⟨i + 1, M.set i (-9), by go_num, by omega, by rw [List.length_set]; exact hM, hst, ho5', hbr'⟩
      case measure => simp [intOf]; omega
    · obtain rfl : i = L.length := by omega
      have hE6 := hE.below hbr
      have H7 := Lib.hid (HG.out wr hE6)
      clear hoA
      go_wp2_with fail
      refine H7.out.mono ?_
      rintro e w7 ⟨A7, n7, c7, rfl, ho7, hb7⟩
      obtain rfl : L.length = n7 := by have := ho7.len; simpa using this
      have hb17 := below_step hbr hb7 hbr.size
      have H8 := Lib.hid (HP.out A7 A5 _ c7 c5 w7 (ho7.rd (by decide)) ((ho5.below hb7).rd (by decide)) rfl)
      go_wp2_with fail
      refine H8.out.mono ?_
      rintro e w8 ⟨rfl, hb8⟩
      have hb18 := below_step hb17 hb8 hb17.size
      have hE8 := hE.below hb18
      have H9 := Lib.hid (HC.out w8 hE8)
      obtain ⟨k, Hk⟩ : ∃ k, Hid (countS s = k) := ⟨_, Lib.hid rfl⟩
      rw [Hk.out] at H9
      have hmx : max ((L.length : Int) - 1) 0 = (k : Int) := by have := Hk.out; have := HCn.out; omega
      clear H7 H8 hb7 hb8
      go_wp2_with fail
      refine H9.out.mono ?_
      rintro e w9 ⟨rfl, hb9⟩
      have hb19 := below_step hb18 hb9 hb18.size
      have H10 := Lib.hid (HLv.out w9 (hE.below hb19))
      go_wp2_with fail
      refine H10.out.mono ?_
      rintro e w10 ⟨rfl, hb10⟩
      have hb110 := below_step hb19 hb10 hb19.size
      go_wp2
      go_ret
      exact ⟨rfl, hb110⟩
end Go.Proofs.YtdnkignhenkamaaGreatDoor

