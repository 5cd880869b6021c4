/-
  word.Bounds, walked.
-/
import Derived.Test.YtlbfbkdcjdeagaaGreatDoorYWordPartsKd
import Derived.Test.YtlbfbkdcjdeagaaGreatDoorYWordPartsKe
import Derived.Test.YtlbfbkdcjdeagaaGreatDoorYWordParts0a
namespace Go.Proofs.YtlbfbkdcjdeagaaGreatDoor
open Go.RowKit

theorem pick_next {c : List Int} {P : List Nat} {i a : Nat} (h : P[i]? = some a) : wPick c 0 (P.take (i + 1)) = wPick c 0 (P.take i) ++ (if i = 0 ∨ wCut c i = true then [a] else []) := by
  obtain ⟨h1, h2⟩ := List.getElem?_eq_some_iff.1 h
  rw [List.take_add_one, h, Option.toList_some, wPick_append, Nat.zero_add, List.length_take, Nat.min_eq_left (by omega), wPick, wPick, List.append_nil]

set_option maxRecDepth 100000 in
set_option maxHeartbeats 8000000 in
theorem kBounds_any (s : ByteArray) (w : World) (hE : Env w) (hs : s.size ≤ 1000000) :
    Calls Tryz.prog 18 #[.string s] w fun e w' => ∃ A n c, e = .returned (.slice A n c) ∧ Own w' w.heap.size 3 1 A n c ((wBounds gW s).map encN) ∧ Below w.heap.size w w' := by
  obtain ⟨i0, hi0, hz0, hz1, hz2⟩ := info_parts infoInt
  have HC := Lib.hid (kscan_any s w hE hs)
  obtain ⟨P, HP⟩ : ∃ P, Hid ((runesP s).map (·.2.1) = P) := ⟨_, Lib.hid rfl⟩
  obtain ⟨C, HCl⟩ : ∃ C, Hid (wCls gW s = C) := ⟨_, Lib.hid rfl⟩
  have HW : Hid (wBounds gW s = wPick C 0 P ++ (if s.size = 0 then [] else [s.size])) := Lib.hid (by rw [← HP.out, ← HCl.out]; rfl)
  have hPl : P.length = C.length := by rw [← HP.out, ← HCl.out, List.length_map, wCls_len]
  have hPz : P.length ≤ s.size := by rw [← HP.out, List.length_map]; exact runesP_len s
  clear hE
  go_enter Tryz.func18, Tryz.ntmps18
  go_wp2_with fail
  refine HC.out.mono ?_
  rintro e w1 ⟨A1, n1, c1, A2, n2, c2, rfl, o1, o2, hb1⟩
  clear HC
  rw [HP.out] at o1
  rw [HCl.out] at o2
  have hn1 : P.length = n1 := by have := o1.len; simpa using this
  have hn2 : C.length = n2 := by have := o2.len; simpa using this
  obtain rfl : n2 = n1 := by omega
  have Hn2 := Lib.hid hn2
  have Hn1 := Lib.hid hn1
  have hnz : n2 ≤ s.size := by omega
  clear hn1 hn2 hPl hPz
  have hK := Blk.new w1 64 #[.slice A1 n2 c1, .slice A2 n2 c2, .int .i64 s.size]
  have hb2 : Below w1.heap.size w1 (w1.alloc (.cells #[.slice A1 n2 c1, .slice A2 n2 c2, .int .i64 s.size] 64)) := (Below.refl _ _).alloc (Nat.le_refl _) _
  have o1 := o1.below hb2
  have o2 := o2.below hb2
  have hb3 := below_step hb1 hb2 hb1.size
  have k0 := hK.cell 0
  have k1 := hK.cell 1
  have k2 := hK.cell 2
  simp only [List.getElem?_toArray, List.getElem?_cons_zero, List.getElem?_cons_succ] at k0 k1 k2
  go_wp2_with fail
  have hk3 : w1.heap.size < (w1.alloc (.cells #[.slice A1 n2 c1, .slice A2 n2 c2, .int .i64 s.size] 64)).heap.size := by simp
  generalize (w1.alloc (.cells #[.slice A1 n2 c1, .slice A2 n2 c2, .int .i64 s.size] 64)) = w3 at hK o1 o2 hb3 k0 k1 k2 hk3 ⊢
  generalize w1.heap.size = bx at hK k0 k1 k2 hk3 ⊢
  have rd1 := o1.rd (by decide)
  have rd2 := o2.rd (by decide)
  have hsz3 := hb3.size
  clear o1 o2 hb1 hb2
  go_loopw [4, 12] (fun v u wr => ∃ (i : Nat) (A : Option Addr) (n c : Nat) (O : List Nat), v = .slice A n c ∧ u = .int .i64 i ∧ i ≤ n2 ∧ Own wr w3.heap.size 3 1 A n c (O.map encN) ∧ n ≤ i ∧ Hid (O = wPick C 0 (P.take i)) ∧ Below w3.heap.size w3 wr) (fun _ u _ => n2 - (intOf u).toNat)
  case atStart => exact ⟨0, none, 0, 0, [], rfl, rfl, by omega, Own.nil_ _ _ _ _, by omega, Lib.hid rfl, Below.refl _ _⟩
  case round =>
    obtain ⟨i, A, n, c, O, rfl, rfl, hi, ho, hni, HO, hb⟩ := hrel
    have hszr := hb.size
    by_cases hlt : i < n2
    · obtain ⟨a, Ha⟩ : ∃ a, Hid (P[i]? = some a) := ⟨_, Lib.hid (List.getElem?_eq_getElem (by have := Hn1.out; omega))⟩
      obtain ⟨b1, off1, rfl, hc1⟩ := rd1.atP Ha.out
      have hc1 := cell_keep hc1 hb
      have j0 := cell_keep k0 hb
      have j1 := cell_keep k1 hb
      have j2 := cell_keep k2 hb
      have HN := Lib.hid (pick_next (c := C) Ha.out)
      rw [← HO.out] at HN
      have HX : Hid (i = 0 ∨ ∃ j, i = j + 1) := Lib.hid (by cases i with | zero => exact .inl rfl | succ j => exact .inr ⟨j, rfl⟩)
      rcases HX.out with hi0 | ⟨j, rfl⟩
      · have HN' : Hid (O ++ [a] = wPick C 0 (P.take (i + 1))) := Lib.hid (by rw [HN.out, if_pos (.inl hi0)])
        have e0 : ((i : Int) == 0) = true := by rw [hi0]; rfl
        clear hi0
        go_wp2_with (at_builtin; go_must (refine wpList_app rfl (.tmp 24) (.tmp 26) _ rfl w3.heap.size 3 i0 _ 1 8 Tryz.underlying25 hi0 hz0 hz1 hz2 rfl (by omega) A n c (O.map encN) rfl (ho.alloc _) _ 1 1 [encN a] rfl rfl (Rd.newAt (by simp) rfl) (encN_ok [a]) (by unfold maxLen; omega) (by omega) (by simp; omega) ?_); intro A3 c3 w4 ho4 hg4 hA4; have hb4 := below_app (hb.alloc (by omega) _) hg4 (by simp; omega) (fun a ha => by have := (ho.lt a ha).1; omega); clear hg4 hA4)
        go_roundw
        case rel => exact ⟨i + 1, A3, n + 1, c3, O ++ [a], rfl, by go_num, by omega, by rw [List.map_append]; exact ho4, by omega, HN', hb4⟩
        case measure => simp [intOf]; omega
      · have HCu := Lib.hid (kcut_any (some ⟨b1, off1, none⟩) A2 n2 c1 n2 c2 s.size C (j + 1) wr (rd2.below hb) Hn2.out (by omega) (by omega) (by omega))
        cases hcu : wCut C (j + 1) with
        | true =>
          have HN' : Hid (O ++ [a] = wPick C 0 (P.take (j + 1 + 1))) := Lib.hid (by rw [HN.out, if_pos (.inr hcu)])
          rw [hcu] at HCu
          clear hcu
          go_wp2_with (first | (go_at_call 62; refine HCu.out.mono ?_; rintro e w5 ⟨rfl, hb5⟩; have hbb := below_step hb hb5 hb.size; have ho5 := ho.below hb5; have hs5 := hbb.size) | (at_builtin; go_must (refine wpList_app rfl (.tmp 24) (.tmp 26) _ rfl w3.heap.size 3 i0 _ 1 8 Tryz.underlying25 hi0 hz0 hz1 hz2 rfl (by omega) A n c (O.map encN) rfl (ho5.alloc _) _ 1 1 [encN a] rfl rfl (Rd.newAt (by simp) rfl) (encN_ok [a]) (by unfold maxLen; omega) (by omega) (by simp; omega) ?_); intro A3 c3 w4 ho4 hg4 hA4; have hb4 := below_app (hbb.alloc (by omega) _) hg4 (by simp; omega) (fun a ha => by have := (ho5.lt a ha).1; omega); clear hg4 hA4))
          go_roundw
          case rel => exact ⟨j + 1 + 1, A3, n + 1, c3, O ++ [a], rfl, by go_num, by omega, by rw [List.map_append]; exact ho4, by omega, HN', hb4⟩
          case measure => simp [intOf]; omega
        | false =>
          have HN' : Hid (O = wPick C 0 (P.take (j + 1 + 1))) := Lib.hid (by rw [HN.out, if_neg (by rw [hcu]; simp), List.append_nil])
          rw [hcu] at HCu
          clear hcu
          go_wp2_with (go_at_call 62; refine HCu.out.mono ?_; rintro e w5 ⟨rfl, hb5⟩; have hbb := below_step hb hb5 hb.size; have ho5 := ho.below hb5)
          go_roundw
          case rel => exact ⟨j + 1 + 1, A, n, c, O, rfl, by go_num, by omega, ho5, by omega, HN', hbb⟩
          case measure => simp [intOf]; omega
    · obtain rfl : i = n2 := by omega
      have hO : Hid (O = wPick C 0 P) := Lib.hid (by rw [HO.out, List.take_of_length_le (by have := Hn1.out; omega)])
      by_cases hz : 0 < s.size
      · have HV : Hid (O ++ [s.size] = wBounds gW s) := Lib.hid (by rw [HW.out, hO.out, if_neg (by omega)])
        go_wp2_with (at_builtin; go_must (refine wpList_app rfl (.tmp 32) (.tmp 35) _ rfl w3.heap.size 3 i0 _ 1 8 Tryz.underlying25 hi0 hz0 hz1 hz2 rfl (by omega) A n c (O.map encN) rfl (ho.alloc _) _ 1 1 [encN s.size] rfl rfl (Rd.newAt (by simp) rfl) (encN_ok [s.size]) (by unfold maxLen; omega) (by omega) (by simp; omega) ?_); intro A3 c3 w4 ho4 hg4 hA4; have hb4 := below_app (hb.alloc (by omega) _) hg4 (by simp; omega) (fun a ha => by have := (ho.lt a ha).1; omega); clear hg4 hA4)
        go_ret
        exact ⟨A3, n + 1, c3, rfl, by rw [← HV.out, List.map_append]; exact ho4.more hsz3, below_step hb3 hb4 hsz3⟩
      · have HV : Hid (O = wBounds gW s) := Lib.hid (by rw [HW.out, hO.out, if_pos (by omega), List.append_nil])
        go_wp2
        go_ret
        exact ⟨A, n, c, rfl, by rw [← HV.out]; exact ho.more hsz3, below_step hb3 hb hsz3⟩
end Go.Proofs.YtlbfbkdcjdeagaaGreatDoor

