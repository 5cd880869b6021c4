/-
  Several texts in one, in their build order: Td, UtfS, UtfI, UtfL, Tf, Va, VP, HexR, Bld, Grow, Upper, Repeat, Spell, Join, Print, Wi, Wj, Vb, Qt, Vc, Vd, Ve, Vf, PrintS, Qd, Vi, LinS, LinT.
-/
import Derived.Lib.SpaceU
import Derived.WalkMore
import Derived.Deep.DeepMust
import Derived.Deep.LoopGhost
import Derived.Shelf.Strings.BuilderK
import Derived.Lib.OthersKept
import Derived.RangeFuncOwn
import Derived.Lib.Builder
import Derived.Lib.FrozenHead2
import Derived.Lib.AppendStr
import Derived.Lib.BufferRead
import Derived.Test.YthlnfefpdmecaaaGreatDoorYLineNever0a
import Derived.Test.YthlnfefpdmecaaaGreatDoorZ0a
import Derived.Test.YthlnfefpdmecaaaGreatDoorZ1a
import Derived.Test.YthlnfefpdmecaaaGreatDoorZ1b
import Derived.Test.YthlnfefpdmecaaaGreatDoorZRefU
import Derived.Test.YthlnfefpdmecaaaGreatDoorZ2a
import Derived.Test.YthlnfefpdmecaaaGreatDoorZ4a
/-
  line.scan, walked.
-/
namespace Go.Proofs.YthlnfefpdmecaaaGreatDoor
open Go.RowKit

theorem scAt_endL {g : Int → Nat} {s : ByteArray} {f q : Nat} {P : List Nat} {C : List Int} (h : ScAt g s f q P C) (hp : ¬ q < s.size) : P = (runesP s).map (·.2.1) ∧ C = lCls g s := scAt_end h hp
theorem res_tscan (w : World) (b : Nat) (tmps : Array Value) (ht : tmps.getD 2 undef = .pointer (some ⟨b, 0, none⟩)) {A1 A2 : Option Addr} {n1 c1 n2 c2 : Nat} (h : Blk w b 122 #[.slice A1 n1 c1, .slice A2 n2 c2]) :
    (results Tryz.f128 tmps).run Tryz.prog w = .ok (.agg #[.slice A1 n1 c1, .slice A2 n2 c2]) w := by
  have ht' : tmps[2]?.getD undef = .pointer (some ⟨b, 0, none⟩) := by simpa [Array.getD_eq_getD_getElem?] using ht
  have h0 := h.cell 0
  have h1 := h.cell 1
  simp only [List.getElem?_toArray, List.getElem?_cons_zero, List.getElem?_cons_succ] at h0 h1
  simp [results, Tryz.results128, go_sem, ht', h0, h1]
set_option maxRecDepth 100000 in
set_option maxHeartbeats 8000000 in
theorem tscan_any (s : ByteArray) (w : World) (hE : Env w) (hs : s.size ≤ 1000000) :
    Calls Tryz.prog 128 #[.string s] w fun e w' => ∃ A1 n1 c1 A2 n2 c2, e = .returned (.agg #[.slice A1 n1 c1, .slice A2 n2 c2]) ∧ Own w' w.heap.size 3 1 A1 n1 c1 (((runesP s).map (·.2.1)).map encN) ∧
      Own w' w.heap.size 3 1 A2 n2 c2 ((lCls gL s).map encZ) ∧ Below w.heap.size w w' := by
  obtain ⟨i0, hi0, hz0, hz1, hz2⟩ := info_parts infoInt
  have hB0 : Below w.heap.size w (w.alloc (.cells #[.slice none 0 0, .slice none 0 0] 122)) := (Below.refl _ _).alloc (Nat.le_refl _) _
  have hR0 := Blk.new w 122 #[.slice none 0 0, .slice none 0 0]
  have hE0 := hE.below hB0
  go_enter Tryz.func128, Tryz.ntmps128
  generalize hT : ByteArray.mk _ = T
  have HN : newP T.data.toList = .ok linesD := by rw [← hT]; exact new_K (by kernel_rfl) (by kernel_rfl)
  have hTl : T.data.toList.length ≤ maxLen := by rw [← hT]; exact of_decide_eq_true (by kernel_rfl)
  clear hT
  have HC := wNew_any T.data.toList _ hE0 hTl
  rw [HN, bytes_is] at HC
  replace HC := Lib.hid HC
  clear HN hTl
  go_wp2_with fail
  refine HC.out.mono ?_
  rintro e w1 ⟨⟨p, rfl, hd⟩, hb1⟩
  clear HC
  have hR1 := hR0.below hb1
  have hB1 : Below w.heap.size w w1 := hB0.trans (hb1.mono (by simp))
  have hsz1 : w.heap.size < w1.heap.size := hR1.lt
  clear hR0 hB0 hE0 hb1
  have hM0 : ScM ((w1.alloc (.cells #[.slice none 0 0, .slice none 0 0] 122)).iter s 0) 122 w1.heap.size (w1.heap.size + 2) w1.heap.size (w1.heap.size + 1) s 0 [] none 0 0 none 0 0 [] [] :=
    ⟨(Blk.new w1 _ _).alloc _, (by have := iter_new (w1.alloc (.cells #[.slice none 0 0, .slice none 0 0] 122)) s 0; simpa using this), Own.nil_ _ _ _ _, Own.nil_ _ _ _ _, fun _ _ h => (by cases h), (by unfold World.iter; simp)⟩
  have hB2 : Below w1.heap.size w1 ((w1.alloc (.cells #[.slice none 0 0, .slice none 0 0] 122)).iter s 0) := below_iter ((Below.refl _ _).alloc (Nat.le_refl _) _) (by simp) _ _
  have HA0 := Lib.hid (scAt_first gL s)
  have HD := Lib.hid hd
  clear hd hE
  go_wp2_with fail
  go_loopw [7] (fun _ wr => ∃ (q f : Nat) (A1 : Option Addr) (n1 c1 : Nat) (A2 : Option Addr) (n2 c2 : Nat) (P : List Nat) (C : List Int), ScM wr 122 w1.heap.size (w1.heap.size + 2) w1.heap.size (w1.heap.size + 1) s q [] A1 n1 c1 A2 n2 c2 P C ∧
      n1 ≤ q ∧ n2 ≤ q ∧ q ≤ s.size ∧ Hid (ScAt gL s f q P C) ∧ Below w1.heap.size w1 wr) (fun _ wr => s.size - wr.iterPos (w1.heap.size + 1))
  case atStart => exact ⟨0, s.size, none, 0, 0, none, 0, 0, [], [], hM0, by omega, by omega, by omega, HA0, hB2⟩
  case round =>
    clear hM0 hB2 HA0
    obtain ⟨q, f, A1, n1, c1, A2, n2, c2, P, C, hM, hn1, hn2, hq, HA, hb⟩ := hrel
    have hit := hM.it
    have Hpos := Lib.hid (iterPos_of hit)
    by_cases hp : q < s.size
    · obtain ⟨⟨R, W⟩, HDc⟩ : ∃ d, Utf8.decode s q = d := ⟨_, rfl⟩
      have hd := dec_bd s q hp
      have hnx : ∀ ty, (Instr.next (.pointer (some ⟨w1.heap.size + 1, 0, none⟩)) true ty).run Tryz.prog wr = _ := fun ty => Lib.run_next_any_at wr (w1.heap.size + 1) s q ty hit hp
      have hM2 := hM.iterAt (q + (Utf8.decode s q).2)
      have hb2 := Lib.below_iterAt hb (k := w1.heap.size + 1) (by omega) s (q + (Utf8.decode s q).2)
      rw [HDc] at hd hnx hM2 hb2
      simp only at hd hnx hM2 hb2
      obtain ⟨g, HA'⟩ := scAt_add HA.out hp HDc (by omega)
      have HA' := Lib.hid HA'
      clear HA HDc hM hb hit
      generalize wr.iterAt (w1.heap.size + 1) s (q + W) = w2 at hnx hM2 hb2
      have k0 := hM2.blk.cell 0
      simp only [List.getElem?_toArray, List.getElem?_cons_zero] at k0
      have hsz2 := hM2.lt.2.2.2.2.2
      go_upto_region 7 with (at_builtin; go_must (refine wpList_app rfl (.tmp 21) (.tmp 23) _ rfl (w1.heap.size + 2) 3 i0 _ 1 8 Tryz.underlying35 hi0 hz0 hz1 hz2 rfl (by omega) A1 n1 c1 (P.map encN) rfl (hM2.o1.alloc _) _ 1 1 [encN q] rfl rfl (Rd.newAt (by simp) rfl) (encN_ok [q]) (by unfold maxLen; omega) (by omega) (by simp; omega) ?_); intro A3 c3 w3 ho3 hg3 hA3; have HM := hM2.more1 (x := q) (by rw [List.map_append]; exact ho3) hg3 hA3; have k3 := HM.1.cell 0; have f3 := HM.1.frozen 0; simp only [List.getElem?_toArray, List.getElem?_cons_zero] at k3)
      have hM5 := HM.2.1
      have hb5 := HM.2.2 _ hb2
      clear HM k3 f3 hg3 ho3 hA3 hM2 hb2 hnx k0
      generalize w3.setCell ⟨w1.heap.size, 0, none⟩ (.slice A3 (n1 + 1) c3) = w5 at hM5 hb5 ⊢
      have k5 := hM5.blk.cell 1
      simp only [List.getElem?_toArray, List.getElem?_cons_zero, List.getElem?_cons_succ] at k5
      have HG := Lib.hid (wGet_any p linesD R w5.drew ((HD.out.below hb5).drewN 1) linesOk.1 linesOk.2.1)
      have hsz5 := hM5.lt.2.2.2.2.2
      go_wp2_with fail
      refine wp_region_last (S := fun V => V.cell? ⟨w1.heap.size, 1, none⟩ = some (.slice A2 n2 c2)) 8 rfl (by kernel_rfl) (by kernel_rfl) (by kernel_rfl) k5 (fun hHeld => ?_)
      simp only [List.dropLast_cons_cons, List.dropLast_singleton]
      refine wpAnyH_take (i := 0) (v := ?_) rfl (by kernel_rfl) (by kernel_rfl) (by kernel_rfl) (fun _ _ _ h => h) (Or.inl ⟨by rfl, ?_⟩) (by assumption) ?_; rotate_left; focus ((intro w hSw; (try dsimp only at hSw); go_simp); try with_reducible rfl)
      (try simp only [Act.put, List.getElem_toArray, List.getElem_cons_zero, List.setIfInBounds_toArray, List.set_cons_zero, List.set_cons_succ])
      refine wpAnyH_take (i := 1) (v := ?_) rfl (by kernel_rfl) (by kernel_rfl) (by kernel_rfl) (fun _ _ _ h => h) (Or.inl ⟨by rfl, ?_⟩) (by assumption) ?_; rotate_left; focus ((intro w hSw; (try dsimp only at hSw); go_simp); try with_reducible rfl)
      (try simp only [Act.put, List.getElem_toArray, List.getElem_cons_succ, List.getElem_cons_zero, List.setIfInBounds_toArray, List.set_cons_zero, List.set_cons_succ])
      refine wpAnyH_take (i := 2) (v := ?_) rfl (by kernel_rfl) (by kernel_rfl) (by kernel_rfl) (fun _ _ _ h => h) (Or.inl ⟨by rfl, ?_⟩) (by assumption) ?_; rotate_left; focus ((intro w hSw; (try dsimp only at hSw); go_simp); try with_reducible rfl)
      (try simp only [Act.put, List.getElem_toArray, List.getElem_cons_succ, List.getElem_cons_zero, List.setIfInBounds_toArray, List.set_cons_zero, List.set_cons_succ])
      refine wpAnyH_take (i := 3) (v := ?_) rfl (by kernel_rfl) (by kernel_rfl) (by kernel_rfl) (fun _ _ _ h => h) (Or.inl ⟨by rfl, ?_⟩) (by assumption) ?_; rotate_left; focus ((intro w hSw; (try dsimp only at hSw); go_simp); try with_reducible rfl)
      (try simp only [Act.put, List.getElem_toArray, List.getElem_cons_succ, List.getElem_cons_zero, List.setIfInBounds_toArray, List.set_cons_zero, List.set_cons_succ])
      refine wpAnyH_ready (rs := [4]) (by kernel_rfl) (by simp) ?_
      refine AllReadyH.cons rfl (fun K hK => ?_) AllReadyH.nil
      go_simp
      refine HG.out.mono ?_
      rintro e wz ⟨rfl, hbz⟩
      have hMz := (hM5.below (w' := w5.drew) (Below.refl _ _).drew).below hbz
      have hbbz := below_step (below_drewN hb5 1) hbz hb5.size
      have kz := hMz.blk.cell 1
      simp only [List.getElem?_toArray, List.getElem?_cons_zero, List.getElem?_cons_succ] at kz
      have hszz := hMz.lt.2.2.2.2.2
      refine hK.out _ _ kz (fun hHeld => ?_)
      clear hK K
      refine wpAnyH_ready (rs := [5]) (by kernel_rfl) (by simp) ?_
      refine AllReadyH.cons rfl (fun K hK => ?_) AllReadyH.nil
      go_simp
      refine hK.out _ _ (cell_keep kz ((Below.refl _ _).alloc (Nat.le_refl _) _)) (fun hHeld => ?_)
      clear hK K
      refine wpAnyH_ready (rs := [6]) (by kernel_rfl) (by simp) ?_
      refine AllReadyH.cons rfl (fun K hK => ?_) AllReadyH.nil
      refine step_app rfl (.tmp 27) (.tmp 31) _ rfl (w1.heap.size + 2) 3 i0 _ 1 8 Tryz.underlying35 hi0 hz0 hz1 hz2 rfl (by omega) A2 n2 c2 (C.map encZ) rfl (hMz.o2.alloc _) _ 1 1 [encZ (gL R : Int)] rfl rfl (Rd.newAt (by simp) rfl) (encZ_ok [(gL R : Int)]) (by unfold maxLen; omega) (by omega) (by simp; omega) ?_
      intro A4 c4 w4 ho4 hg4 hA4
      have HM := hMz.more2 (x := (gL R : Int)) (by rw [List.map_append]; exact ho4) hg4 hA4
      have k4 := HM.1.cell 1
      have f4 := HM.1.frozen 1
      simp only [List.getElem?_toArray, List.getElem?_cons_zero, List.getElem?_cons_succ] at k4
      refine hK.out _ _ k4 (fun hHeld => ?_)
      clear hK K
      refine wpAnyH_take (i := 7) (v := ?_) rfl (by kernel_rfl) (by kernel_rfl) (by kernel_rfl) (fun _ _ _ h => h) (Or.inl ⟨by rfl, ?_⟩) (by assumption) ?_; rotate_left; focus ((intro w hSw; (try dsimp only at hSw); go_simp); try with_reducible rfl)
      (try simp only [Act.put, List.getElem_toArray, List.getElem_cons_succ, List.getElem_cons_zero, List.setIfInBounds_toArray, List.set_cons_zero, List.set_cons_succ])
      refine wpAnyH_done (by kernel_rfl) ?_ _
      refine tailQ_end (wpOp_step (i := 8) rfl (fun K hK => ?_))
      go_simp
      refine hK _ _ ?_
      clear hK K
      have hM6 := HM.2.1
      have hb6 := HM.2.2 _ hbbz
      go_wp2
      go_roundw
      case rel => exact ⟨q + W, g, _, _, _, _, _, _, P ++ [q], C ++ [(gL R : Int)], hM6, by omega, by omega, by omega, HA', hb6⟩
      case measure => rw [iterPos_of hM6.it, Hpos.out]; omega
    · have hnx : ∀ ty, (Instr.next (.pointer (some ⟨w1.heap.size + 1, 0, none⟩)) true ty).run Tryz.prog wr = _ := fun ty => Lib.run_next_end_at wr (w1.heap.size + 1) s q ty hit hp
      have HE := Lib.hid (scAt_endL HA.out hp)
      have hRr := hR1.below hb
      have k0 := hM.blk.cell 0
      have k1 := hM.blk.cell 1
      have r0 := hRr.cell 0
      have r1 := hRr.cell 1
      have g0 := hRr.frozen 0
      have g1 := hRr.frozen 1
      simp only [List.getElem?_toArray, List.getElem?_cons_zero, List.getElem?_cons_succ] at k0 k1 r0 r1
      go_wp2
      have hl1 : ∀ a, A1 = some a → a.block ≠ w.heap.size := fun a ha => by have := (hM.o1.lt a ha).1; omega
      have hl2 : ∀ a, A2 = some a → a.block ≠ w.heap.size := fun a ha => by have := (hM.o2.lt a ha).1; omega
      have hBk := ((hRr.set_ 0 (.slice A1 n1 c1)).set_ 1 (.slice A2 n2 c2))
      have ho1 := (((hM.o1.setCell (p := ⟨w.heap.size, 0, none⟩) hl1 (.slice A1 n1 c1)).setCell (p := ⟨w.heap.size, 1, none⟩) hl1 (.slice A2 n2 c2)).more (b' := w.heap.size) (by omega))
      have ho2 := (((hM.o2.setCell (p := ⟨w.heap.size, 0, none⟩) hl2 (.slice A1 n1 c1)).setCell (p := ⟨w.heap.size, 1, none⟩) hl2 (.slice A2 n2 c2)).more (b' := w.heap.size) (by omega))
      have hbb := (((below_step hB1 hb hB1.size).setCell (p := ⟨w.heap.size, 0, none⟩) (Nat.le_refl _) (.slice A1 n1 c1)).setCell (p := ⟨w.heap.size, 1, none⟩) (Nat.le_refl _) (.slice A2 n2 c2))
      rw [HE.out.1] at ho1
      rw [HE.out.2] at ho2
      refine bodyPost_ret (res_tscan _ w.heap.size _ rfl (by simpa using hBk)) rfl ?_
      exact ⟨_, _, _, _, _, _, rfl, ho1, ho2, hbb⟩
end Go.Proofs.YthlnfefpdmecaaaGreatDoor

/-
  PLAIN: the runes of a part of a text that begins and ends where runes begin. No walk.
-/
namespace Go.Proofs.YthlnfefpdmecaaaGreatDoor

theorem runes_rise' (s : ByteArray) : (runesP s).Pairwise fun x y => x.2.1 < y.2.1 := by
  have : ∀ (f a : Nat), (runesGo s f a).Pairwise fun x y => x.2.1 < y.2.1 := by
    intro f
    induction f with
    | zero => intro a; exact .nil
    | succ f ih =>
      intro a
      rw [runesGo]
      split
      · rename_i hlt
        have hd := dec_bd s a hlt
        refine .cons (fun y hy => ?_) (ih _)
        have := runesGo_bd _ _ y hy
        simp only; omega
      · exact .nil
  exact this _ _
/-- A place where a rune begins, or the end. -/
def PlaceAt (s : ByteArray) (z : Nat) : Prop := z = s.size ∨ ∃ x ∈ runesP s, x.2.1 = z
theorem PlaceAt.le {s : ByteArray} {z : Nat} (h : PlaceAt s z) : z ≤ s.size := by
  rcases h with rfl | ⟨x, hx, rfl⟩
  · exact Nat.le_refl _
  · have := runesP_bd x hx; omega
theorem tw_mem {z : Nat} {x : Nat × Nat × Nat} : ∀ {l : List (Nat × Nat × Nat)}, x ∈ l.takeWhile (fun x => decide (x.2.1 < z)) → x.2.1 < z
  | [], h => by simp at h
  | y :: l, h => by
    rw [List.takeWhile_cons] at h
    split at h
    · rename_i hy
      rcases List.mem_cons.1 h with rfl | h
      · simpa using hy
      · exact tw_mem h
    · simp at h
theorem tw_pre (z : Nat) : ∀ (l : List (Nat × Nat × Nat)), (l.Pairwise fun x y => x.2.1 < y.2.1) → ∃ Q, l = (l.takeWhile fun x => decide (x.2.1 < z)) ++ Q ∧ ∀ x ∈ Q, z ≤ x.2.1
  | [], _ => ⟨[], rfl, by simp⟩
  | y :: l, h => by
    rw [List.pairwise_cons] at h
    rw [List.takeWhile_cons]
    by_cases hy : y.2.1 < z
    · obtain ⟨Q, h1, h2⟩ := tw_pre z l h.2
      refine ⟨Q, ?_, h2⟩
      rw [if_pos (by simpa using hy), List.cons_append, ← h1]
    · rw [if_neg (by simpa using hy)]
      refine ⟨y :: l, rfl, fun x hx => ?_⟩
      rcases List.mem_cons.1 hx with rfl | hx
      · omega
      · have := h.1 x hx; omega
theorem get_sub (s : ByteArray) {a b : Nat} (hb : b ≤ s.size) (k : Nat) : (s.extract 0 b).get! (a + k) = (s.extract a b).get! k := by
  rw [← Lib.getD_get!', ← Lib.getD_get!', ByteArray.data_extract, ByteArray.data_extract, Array.toList_extract, Array.toList_extract, List.extract_eq_take_drop, List.extract_eq_take_drop, List.getD_eq_getElem?_getD, List.getD_eq_getElem?_getD, List.drop_zero, Nat.sub_zero]
  by_cases h : a + k < b
  · rw [List.getElem?_take_of_lt h, List.getElem?_take_of_lt (by omega), List.getElem?_drop]
  · rw [List.getElem?_eq_none (by rw [List.length_take, size_data]; omega), List.getElem?_eq_none (by rw [List.length_take, List.length_drop, size_data]; omega)]
/-- The runes of a part. -/
theorem runes_sub (s : ByteArray) {a b : Nat} (hab : a ≤ b) (ha : PlaceAt s a) (hb : PlaceAt s b) : ∃ P Q, runesP s = P ++ (runesP (s.extract a b)).map (shR a) ++ Q ∧ (∀ x ∈ P, x.2.1 < a) ∧ (∀ x ∈ Q, b ≤ x.2.1) := by
  have hbz := hb.le
  have hu : (s.extract 0 b).size = b := by rw [ByteArray.size_extract]; omega
  have ht : (s.extract a b).size = b - a := by rw [ByteArray.size_extract]; omega
  have h1 : runesP (s.extract 0 b) = (runesP s).takeWhile fun x => decide (x.2.1 < b) := by
    refine runesP_prefix s hbz ?_
    rcases hb with h | h
    · exact .inr (.inl h)
    · exact .inr (.inr h)
  obtain ⟨Q, hQ, hQb⟩ := tw_pre b (runesP s) (runes_rise' s)
  have hsh : runesGo (s.extract 0 b) b (0 + a) = (runesGo (s.extract a b) (s.extract a b).size 0).map (shR a) := runes_shift _ _ a (by omega) (fun k => get_sub s hbz k) _ _ 0 (by omega) (by omega)
  rw [Nat.zero_add] at hsh
  by_cases hae : a = b
  · subst hae
    have : runesP (s.extract a a) = [] := by unfold runesP; rw [ht, Nat.sub_self]; rfl
    rw [this]
    exact ⟨_, Q, by rw [List.map_nil, List.append_nil]; exact hQ, fun x hx => tw_mem hx, hQb⟩
  · have hpl : ∃ x ∈ runesP (s.extract 0 b), x.2.1 = a := by
      rcases ha with h | ⟨x, hx, e⟩
      · omega
      · refine ⟨x, ?_, e⟩
        rw [h1]
        have hx' := hx
        rw [hQ] at hx'
        rcases List.mem_append.1 hx' with h | h
        · exact h
        · have := hQb x h; omega
    have h2 := split_at_place (s.extract 0 b) (z := a) b 0 (by omega) (by unfold runesP at hpl; rw [hu] at hpl; exact hpl)
    rw [hu, hsh] at h2
    refine ⟨(runesGo (s.extract 0 b) b 0).takeWhile fun x => decide (x.2.1 < a), Q, ?_, fun x hx => tw_mem hx, hQb⟩
    conv => lhs; rw [hQ, ← h1]
    congr 1
    unfold runesP
    rw [hu]
    exact h2
end Go.Proofs.YthlnfefpdmecaaaGreatDoor

/-
  PLAIN: whether a place is an edge, told by looking back three bytes. No walk.
-/
namespace Go.Proofs.YthlnfefpdmecaaaGreatDoor

/-- A rune of several bytes begins with a byte that begins runes. -/
theorem decN_lead {n b0 b1 b2 b3 R W : Nat} (h : Lib.decodeN n b0 b1 b2 b3 = (R, W)) (hW : 2 ≤ W) (h0 : b0 < 256) : b0 / 64 = 3 := by
  unfold Lib.decodeN at h
  repeat' split at h
  all_goals (injection h with _ h; omega)
theorem dec_lead {s : ByteArray} {i R W : Nat} (h : Utf8.decode s i = (R, W)) (hW : 2 ≤ W) : (s.get! i).toNat / 64 = 3 := by
  rw [Lib.decode_at] at h
  exact decN_lead h hW (s.get! i).toNat_lt
theorem decN_room {n b0 b1 b2 b3 R W : Nat} (h : Lib.decodeN n b0 b1 b2 b3 = (R, W)) (hW : 2 ≤ W) : W ≤ n := by
  unfold Lib.decodeN at h
  repeat' split at h
  all_goals (injection h with _ h; omega)
theorem dec_in {s : ByteArray} {i R W : Nat} (h : Utf8.decode s i = (R, W)) (hW : 2 ≤ W) : i + W ≤ s.size := by
  rw [Lib.decode_at] at h
  have := decN_room h hW; omega
/-- Looked back: does a rune that begins one, two or three bytes ahead reach over the place? -/
def edgeB (s : ByteArray) (z : Nat) : Bool := [1, 2, 3].all fun b => !(decide (b ≤ z) && decide (b < (Utf8.decode s (z - b)).2))
theorem place_gap (s : ByteArray) : ∀ (r : List (Nat × Nat × Nat)) (p z : Nat), Contig p r z → ∀ x ∈ r, ∀ y ∈ r, ¬ (x.2.1 < y.2.1 ∧ y.2.1 < x.2.2)
  | [], _, _, _, x, hx, _, _ => by simp at hx
  | a :: r, p, z, h, x, hx, y, hy => by
    obtain ⟨h1, h2, h3⟩ := h
    have hle : ∀ {r : List (Nat × Nat × Nat)} {p z : Nat}, Contig p r z → ∀ x ∈ r, p ≤ x.2.1 := by
      intro r
      induction r with
      | nil => intro p z _ x hx; simp at hx
      | cons w r ih =>
        intro p z h x hx
        obtain ⟨k1, k2, k3⟩ := h
        rcases List.mem_cons.1 hx with rfl | hx
        · omega
        · have := ih k3 x hx; omega
    rcases List.mem_cons.1 hx with ex | hx'
    · rcases List.mem_cons.1 hy with ey | hy'
      · rw [ex, ey]; omega
      · have := hle h3 y hy'; rw [ex]; omega
    · rcases List.mem_cons.1 hy with ey | hy'
      · have := hle h3 x hx'; rw [ey]; omega
      · exact place_gap s r _ z h3 x hx' y hy'
theorem in_rune : ∀ (r : List (Nat × Nat × Nat)) (p z q : Nat), Contig p r z → p ≤ q → q < z → ∃ x ∈ r, x.2.1 ≤ q ∧ q < x.2.2
  | [], p, z, q, h, h1, h2 => by have : p = z := h; omega
  | a :: r, p, z, q, h, h1, h2 => by
    obtain ⟨k1, k2, k3⟩ := h
    rcases Nat.lt_or_ge q a.2.2 with hlt | hge
    · exact ⟨a, by simp, by omega, hlt⟩
    · obtain ⟨x, hx, e⟩ := in_rune r _ z q k3 hge h2
      exact ⟨x, by simp [hx], e⟩
/-- An edge is a place where a rune begins, or the end. -/
theorem edge_iff (s : ByteArray) {z : Nat} (hz : z ≤ s.size) : edgeB s z = true ↔ PlaceAt s z := by
  unfold edgeB
  rw [List.all_eq_true]
  constructor
  · intro h
    rcases Nat.lt_or_ge z s.size with hlt | hge
    · obtain ⟨x, hx, h1, h2⟩ := in_rune _ 0 s.size z (runesP_contig s) (Nat.zero_le _) hlt
      have hb := runesP_bd x hx
      have hd := runesGo_dec _ _ x hx
      rcases Nat.lt_or_ge x.2.1 z with h3 | h3
      · exfalso
        have := h (z - x.2.1) (by simp; omega)
        rw [show z - (z - x.2.1) = x.2.1 by omega, hd] at this
        simp at this
        omega
      · exact .inr ⟨x, hx, by omega⟩
    · exact .inl (by omega)
  · intro hp b hb
    simp only [List.mem_cons, List.not_mem_nil, or_false] at hb
    rw [Bool.not_eq_true', Bool.and_eq_false_iff, decide_eq_false_iff_not, decide_eq_false_iff_not]
    by_cases hbz : b ≤ z
    · refine .inr fun hw => ?_
      obtain ⟨⟨R, W⟩, hD⟩ : ∃ d, Utf8.decode s (z - b) = d := ⟨_, rfl⟩
      rw [hD] at hw
      simp only at hw
      have hroom := dec_in hD (by omega)
      have hl := dec_lead hD (by omega)
      obtain ⟨x, hx, e⟩ := lead_at s (z := z - b) (by omega) (by omega) s.size 0 (by omega) (Nat.zero_le _)
      have hd := runesGo_dec _ _ x hx
      rw [e, hD] at hd
      injection hd with _ hd2
      have hbd := runesP_bd x hx
      rcases hp with h | ⟨y, hy, h⟩
      · omega
      · exact place_gap s _ 0 s.size (runesP_contig s) x hx y hy (by omega)
    · exact .inl hbz
end Go.Proofs.YthlnfefpdmecaaaGreatDoor

/-
  PLAIN: the last rune of a text, as the library finds it from behind, is the last of its runes. No walk.
-/
namespace Go.Proofs.YthlnfefpdmecaaaGreatDoor

theorem lastStart_eq (l : List UInt8) : Lib.lastStart l = if l.length < 2 then 0 else if Lib.runeStartB (l.getD (l.length - 2) 0) = true then l.length - 2 else if l.length < 3 then 0 else if Lib.runeStartB (l.getD (l.length - 3) 0) = true then l.length - 3 else if l.length < 4 then 0 else if Lib.runeStartB (l.getD (l.length - 4) 0) = true then l.length - 4 else if l.length < 5 then 0 else l.length - 5 := rfl
theorem start_iff (b : UInt8) : Lib.runeStartB b = true ↔ b.toNat / 64 ≠ 2 := by unfold Lib.runeStartB; simp
theorem dec_drop (s : ByteArray) (k : Nat) : Lib.decodeL (s.data.toList.drop k) = Utf8.decode s k := by
  unfold Lib.decodeL
  have h := Lib.tail_decode s k 0
  rw [Nat.add_zero] at h
  rw [← h]
  congr 1
  have : (s.extract k s.size).data.toList = s.data.toList.drop k := by
    rw [ByteArray.data_extract, Array.toList_extract, List.extract_eq_take_drop, List.take_of_length_le (by rw [List.length_drop, size_data]; exact Nat.le_refl _)]
  rw [← this]
theorem last_rune (s : ByteArray) {x : Nat × Nat × Nat} (hx : x ∈ runesP s) (he : x.2.2 = s.size) : Lib.decodeLastL s.data.toList = (x.1, x.2.2 - x.2.1) := by
  have hb := runesP_bd x hx
  have hd := runesGo_dec _ _ x hx
  have hsz := size_data s
  have hget : ∀ k, s.data.toList.getD k 0 = s.get! k := fun k => Lib.getD_get!' s k
  have hne : s.data.toList ≠ [] := fun h => by rw [h] at hsz; simp at hsz; omega
  -- no other rune ends there
  have huniq : ∀ y ∈ runesP s, y.2.1 < s.size → x.2.1 ≤ y.2.1 → y.2.1 = x.2.1 := fun y hy h1 h2 => by
    rcases Nat.lt_or_ge x.2.1 y.2.1 with h3 | h3
    · exact absurd ⟨h3, by omega⟩ (place_gap s _ 0 s.size (runesP_contig s) x hx y hy)
    · omega
  unfold Lib.decodeLastL
  rw [if_neg hne, hsz, hget]
  by_cases hasc : (s.get! (s.size - 1)).toNat < 128
  · rw [if_pos hasc]
    obtain ⟨y, hy, e⟩ := ascii_at s (z := s.size - 1) (by omega) hasc s.size 0 (by omega) (Nat.zero_le _)
    have := huniq y hy (by omega) (by omega)
    have hp : x.2.1 = s.size - 1 := by omega
    rw [hp, Lib.decode_at] at hd
    unfold Lib.decodeN at hd
    rw [if_pos hasc] at hd
    rw [hp, ← hd]
  · rw [if_neg hasc]
    have hst : Lib.lastStart s.data.toList < s.size ∧ (Lib.lastStart s.data.toList + 1 = s.size → s.size = 1) := by
      rw [lastStart_eq, hsz]
      repeat' split
      all_goals omega
    rw [dec_drop s _]
    simp only
    rcases Nat.lt_or_ge (x.2.2 - x.2.1) 2 with hW | hW
    · -- one byte
      have hp : x.2.1 = s.size - 1 := by omega
      have hW1 : x.2.2 - x.2.1 = 1 := by omega
      have hR : x.1 = 65533 := by
        rw [hW1, hp, Lib.decode_at] at hd
        unfold Lib.decodeN at hd
        rw [if_neg hasc] at hd
        repeat' split at hd
        all_goals (injection hd with h1 h2; omega)
      obtain ⟨⟨R', W'⟩, hD⟩ : ∃ d, Utf8.decode s (Lib.lastStart s.data.toList) = d := ⟨_, rfl⟩
      have hbd := dec_bd s _ hst.1
      rw [hD] at hbd ⊢
      simp only at hbd ⊢
      split
      · rename_i hsum
        rcases Nat.lt_or_ge W' 2 with h1 | h1
        · have h0 : Lib.lastStart s.data.toList = x.2.1 := by have := hst.2 (by omega); omega
          rw [h0, hd] at hD
          exact hD.symm
        · exfalso
          have hl := dec_lead hD h1
          obtain ⟨y, hy, e⟩ := lead_at s hst.1 (by omega) s.size 0 (by omega) (Nat.zero_le _)
          have hdy := runesGo_dec _ _ y hy
          rw [e, hD] at hdy
          injection hdy with _ h2
          have hby := runesP_bd y hy
          exact place_gap s _ 0 s.size (runesP_contig s) y hy x hx (by omega)
      · rw [hR, hW1]; rfl
    · -- several bytes
      have hl := dec_lead hd hW
      have htail : ∀ k, 0 < k → k < x.2.2 - x.2.1 → ¬ Lib.runeStartB (s.data.toList.getD (x.2.1 + k) 0) = true := fun k h0 h1 => by
        rw [start_iff, hget]
        have := dec_tail hd h0 h1
        omega
      have hlead : Lib.runeStartB (s.data.toList.getD x.2.1 0) = true := by rw [start_iff, hget]; omega
      have hls : Lib.lastStart s.data.toList = x.2.1 := by
        rw [lastStart_eq, hsz]
        rcases (show x.2.2 - x.2.1 = 2 ∨ x.2.2 - x.2.1 = 3 ∨ x.2.2 - x.2.1 = 4 by omega) with h | h | h
        · rw [if_neg (by omega), show s.size - 2 = x.2.1 by omega, if_pos hlead]
        · rw [if_neg (by omega), show s.size - 2 = x.2.1 + 1 by omega, if_neg (htail 1 (by omega) (by omega)), if_neg (by omega), show s.size - 3 = x.2.1 by omega, if_pos hlead]
        · rw [if_neg (by omega), show s.size - 2 = x.2.1 + 2 by omega, if_neg (htail 2 (by omega) (by omega)), if_neg (by omega), show s.size - 3 = x.2.1 + 1 by omega, if_neg (htail 1 (by omega) (by omega)), if_neg (by omega), show s.size - 4 = x.2.1 by omega, if_pos hlead]
      rw [hls, hd, if_pos (by simp only; omega)]
end Go.Proofs.YthlnfefpdmecaaaGreatDoor

/-
  line: what is to be seen of a text: plain; utf.Last and line.Trail, walked.
-/
namespace Go.Proofs.YthlnfefpdmecaaaGreatDoor
open Go.RowKit

def lBl (c : Int) : Bool := c == 4 || c == 1 || c == 2 || c == 3 || c == 5
/-- The end of the last that is no blank. -/
def trR (g : Int → Nat) (l : List (Nat × Nat × Nat)) : Nat := (((l.reverse.dropWhile fun x => lBl (g (x.1 : Int))).head?).map (·.2.2)).getD 0
def trailP (g : Int → Nat) (s : ByteArray) : Nat := trR g (runesP s)
theorem trR_snoc (g : Int → Nat) (l : List (Nat × Nat × Nat)) (x : Nat × Nat × Nat) : trR g (l ++ [x]) = if lBl (g (x.1 : Int)) then trR g l else x.2.2 := by
  unfold trR
  rw [List.reverse_append, List.reverse_singleton, List.singleton_append, List.dropWhile_cons]
  split <;> rfl
theorem takeWhile_snoc {l : List (Nat × Nat × Nat)} {x : Nat × Nat × Nat} (h : (l ++ [x]).Pairwise fun a b => a.2.1 < b.2.1) : (l ++ [x]).takeWhile (fun y => decide (y.2.1 < x.2.1)) = l := by
  rw [List.pairwise_append] at h
  rw [List.takeWhile_append_of_pos fun a ha => decide_eq_true (h.2.2 a ha x (by simp))]
  simp
theorem contig_last : ∀ {l : List (Nat × Nat × Nat)} {a z : Nat} {x : Nat × Nat × Nat}, Contig a (l ++ [x]) z → x.2.2 = z
  | [], _, _, _, h => h.2.2
  | _ :: l, _, _, _, h => contig_last (l := l) h.2.2
theorem trail_empty {g : Int → Nat} {t : ByteArray} (h : ¬ 0 < t.size) : trailP g t = t.size := by
  have : runesP t = [] := by unfold runesP; rw [show t.size = 0 by omega]; rfl
  unfold trailP
  rw [this, show t.size = 0 by omega]; rfl
/-- One rune off the end. -/
theorem trail_step (g : Int → Nat) (t : ByteArray) (h : 0 < t.size) : ∃ r w : Nat, Lib.decodeLastL t.data.toList = (r, w) ∧ 1 ≤ w ∧ w ≤ t.size ∧ trailP g t = if lBl (g (r : Int)) then trailP g (t.extract 0 (t.size - w)) else t.size := by
  have hne : runesP t ≠ [] := fun e => by
    obtain ⟨k, hk, e2⟩ := runesGo_step (s := t) (f := t.size) (a := 0) h (by omega)
    unfold runesP at e
    rw [e] at e2
    cases e2
  rcases List.eq_nil_or_concat (runesP t) with e | ⟨l, x, e⟩
  · exact absurd e hne
  · rw [List.concat_eq_append] at e
    have hx : x ∈ runesP t := by rw [e]; simp
    have hend : x.2.2 = t.size := by
      have hc := runesP_contig t
      rw [e] at hc
      exact contig_last hc
    have hb := runesP_bd x hx
    have hr := runes_rise' t
    have hp := runesP_prefix t (z := x.2.1) (by omega) (.inr (.inr ⟨x, hx, rfl⟩))
    rw [e] at hr hp
    rw [takeWhile_snoc hr] at hp
    refine ⟨x.1, x.2.2 - x.2.1, last_rune t hx hend, by omega, by omega, ?_⟩
    rw [show t.size - (x.2.2 - x.2.1) = x.2.1 by omega]
    unfold trailP
    rw [hp, e, trR_snoc, hend]
set_option maxHeartbeats 1000000 in
theorem eLast_any (s : ByteArray) (w : World) (hT : Tabs w) (h0 : 0 < s.size) (hs : s.size ≤ 1000000) :
    Calls Tryz.prog 39 #[.string s] w fun e w' => e = .returned (.tuple #[.int .i32 (Lib.decodeLastL s.data.toList).1, .int .i64 (Lib.decodeLastL s.data.toList).2]) ∧ Below w.heap.size w w' := by
  have HC := Lib.hid (Tryz.utf8_DecodeLastRuneInString s w (by omega) hT)
  have hem : s.toList.isEmpty = false := by
    rw [ByteArray.toList_eq]
    cases hq : s.data.toList with
    | nil => rw [← size_data, hq] at h0; simp at h0
    | cons a b => rfl
  obtain ⟨r, hr⟩ : ∃ r, Lib.decodeLastL s.data.toList = r := ⟨_, rfl⟩
  rw [hr] at HC ⊢
  clear hr
  go_enter Tryz.func39, Tryz.ntmps39
  go_wp2_with fail
  refine HC.out.mono ?_
  rintro e w1 ⟨rfl, hb⟩
  go_wp2
  go_ret2
  exact ⟨rfl, hb⟩

def txtSize : Value → Nat
  | .string t => t.size
  | _ => 0
set_option maxRecDepth 100000 in
set_option maxHeartbeats 8000000 in
theorem tTrail_any (s : ByteArray) (w : World) (hE : Env w) (hs : s.size ≤ 1000000) :
    Calls Tryz.prog 88 #[.string s] w fun e w' => e = .returned (.int .i64 (trailP gL s : Nat)) ∧ Below w.heap.size w w' := by
  go_enter Tryz.func88, Tryz.ntmps88
  generalize hT : ByteArray.mk _ = T
  have HN : newP T.data.toList = .ok linesD := by rw [← hT]; exact new_K (by kernel_rfl) (by kernel_rfl)
  have hTl : T.data.toList.length ≤ maxLen := by rw [← hT]; exact of_decide_eq_true (by kernel_rfl)
  clear hT
  have HC := wNew_any T.data.toList _ hE hTl
  rw [HN, bytes_is] at HC
  replace HC := Lib.hid HC
  clear HN hTl
  go_wp2_with fail
  go_step3
  go_wp2_with fail
  refine HC.out.mono ?_
  rintro e w1 ⟨⟨p, rfl, hd⟩, hb1⟩
  clear HC
  have HE1 := Lib.hid (hE.below hb1)
  have HD := Lib.hid hd
  clear hd hE
  have hsz1 := hb1.size
  go_wp2_with fail
  go_step3
  go_wp2_with fail
  go_loopw [0] (fun v wr => ∃ t : ByteArray, v = .string t ∧ t.size ≤ s.size ∧ Hid (trailP gL t = trailP gL s) ∧ Below w1.heap.size w1 wr) (fun v _ => txtSize v)
  case atStart => exact ⟨s, rfl, Nat.le_refl _, Lib.hid rfl, Below.refl _ _⟩
  case round =>
    obtain ⟨t, rfl, ht, HTr, hb⟩ := hrel
    have hbb := below_step hb1 hb hsz1
    by_cases h0 : 0 < t.size
    · obtain ⟨r, wd, hdl, h1, h2, hst⟩ := trail_step gL t h0
      have HL := Lib.hid (eLast_any t wr ((HE1.out.below hb).tabs) h0 (by omega))
      rw [hdl] at HL
      have HG := Lib.hid (fun W (h : Below w1.heap.size w1 W) => wGet_any p linesD r W (HD.out.below h) linesOk.1 linesOk.2.1)
      obtain ⟨c, Hc⟩ : ∃ c, Hid (linesD.get (r : Int) = c) := ⟨_, Lib.hid rfl⟩
      have HS := Lib.hid hst
      have hgc : gL (r : Int) = c := Hc.out
      rw [hgc] at HS
      rw [Hc.out] at HG
      clear hst hdl hgc
      have e1 : (t.size : Int) - (wd : Int) = ((t.size - wd : Nat) : Int) := by omega
      have e2 : t.size - wd ≤ t.size := by omega
      have e3 : ((t.size - wd : Nat) : Int) ≤ (t.size : Int) := by omega
      have hsm : (t.extract 0 (t.size - wd)).size = t.size - wd := by rw [ByteArray.size_extract]; omega
      cases h4 : (((c : Nat) : Int) == 4) with
      | true =>
        have HT' : Hid (trailP gL (t.extract 0 (t.size - wd)) = trailP gL s) := Lib.hid (by rw [← HTr.out, HS.out, if_pos (by unfold lBl; rw [h4]; simp)])
        go_wp2_with fail
        refine HL.out.mono ?_
        rintro e w4 ⟨rfl, hb4⟩
        have hb4' := below_step hb hb4 hb.size
        go_wp2_with fail
        refine (HG.out _ hb4').mono ?_
        rintro e w5 ⟨rfl, hb5⟩
        have hb5' := below_step hb4' hb5 hb4'.size
        replace hb5 := hb4.trans (hb5.mono hb4.size)
        go_wp2
        go_roundw
        case rel => exact ⟨t.extract 0 (t.size - wd), by first | rfl | trivial, by rw [hsm]; omega, HT', hb5'⟩
        case measure => simp only [txtSize, hsm]; omega
      | false =>
        cases h5 : (((c : Nat) : Int) == 1) with
        | true =>
          have HT' : Hid (trailP gL (t.extract 0 (t.size - wd)) = trailP gL s) := Lib.hid (by rw [← HTr.out, HS.out, if_pos (by unfold lBl; rw [h5]; simp)])
          go_wp2_with fail
          refine HL.out.mono ?_
          rintro e w4 ⟨rfl, hb4⟩
          have hb4' := below_step hb hb4 hb.size
          go_wp2_with fail
          refine (HG.out _ hb4').mono ?_
          rintro e w5 ⟨rfl, hb5⟩
          have hb5' := below_step hb4' hb5 hb4'.size
          replace hb5 := hb4.trans (hb5.mono hb4.size)
          go_wp2
          go_roundw
          case rel => exact ⟨t.extract 0 (t.size - wd), by first | rfl | trivial, by rw [hsm]; omega, HT', hb5'⟩
          case measure => simp only [txtSize, hsm]; omega
        | false =>
          cases h6 : (((c : Nat) : Int) == 2) with
          | true =>
            have HT' : Hid (trailP gL (t.extract 0 (t.size - wd)) = trailP gL s) := Lib.hid (by rw [← HTr.out, HS.out, if_pos (by unfold lBl; rw [h6]; simp)])
            go_wp2_with fail
            refine HL.out.mono ?_
            rintro e w4 ⟨rfl, hb4⟩
            have hb4' := below_step hb hb4 hb.size
            go_wp2_with fail
            refine (HG.out _ hb4').mono ?_
            rintro e w5 ⟨rfl, hb5⟩
            have hb5' := below_step hb4' hb5 hb4'.size
            replace hb5 := hb4.trans (hb5.mono hb4.size)
            go_wp2
            go_roundw
            case rel => exact ⟨t.extract 0 (t.size - wd), by first | rfl | trivial, by rw [hsm]; omega, HT', hb5'⟩
            case measure => simp only [txtSize, hsm]; omega
          | false =>
            cases h7 : (((c : Nat) : Int) == 3) with
            | true =>
              have HT' : Hid (trailP gL (t.extract 0 (t.size - wd)) = trailP gL s) := Lib.hid (by rw [← HTr.out, HS.out, if_pos (by unfold lBl; rw [h7]; simp)])
              go_wp2_with fail
              refine HL.out.mono ?_
              rintro e w4 ⟨rfl, hb4⟩
              have hb4' := below_step hb hb4 hb.size
              go_wp2_with fail
              refine (HG.out _ hb4').mono ?_
              rintro e w5 ⟨rfl, hb5⟩
              have hb5' := below_step hb4' hb5 hb4'.size
              replace hb5 := hb4.trans (hb5.mono hb4.size)
              go_wp2
              go_roundw
              case rel => exact ⟨t.extract 0 (t.size - wd), by first | rfl | trivial, by rw [hsm]; omega, HT', hb5'⟩
              case measure => simp only [txtSize, hsm]; omega
            | false =>
              cases h8 : (((c : Nat) : Int) == 5) with
              | true =>
                have HT' : Hid (trailP gL (t.extract 0 (t.size - wd)) = trailP gL s) := Lib.hid (by rw [← HTr.out, HS.out, if_pos (by unfold lBl; rw [h8]; simp)])
                go_wp2_with fail
                refine HL.out.mono ?_
                rintro e w4 ⟨rfl, hb4⟩
                have hb4' := below_step hb hb4 hb.size
                go_wp2_with fail
                refine (HG.out _ hb4').mono ?_
                rintro e w5 ⟨rfl, hb5⟩
                have hb5' := below_step hb4' hb5 hb4'.size
                replace hb5 := hb4.trans (hb5.mono hb4.size)
                go_wp2
                go_roundw
                case rel => exact ⟨t.extract 0 (t.size - wd), by first | rfl | trivial, by rw [hsm]; omega, HT', hb5'⟩
                case measure => simp only [txtSize, hsm]; omega
              | false =>
                have HV : Hid (trailP gL s = t.size) := Lib.hid (by rw [← HTr.out, HS.out, if_neg (by unfold lBl; rw [h4, h5, h6, h7, h8]; simp)])
                go_wp2_with fail
                refine HL.out.mono ?_
                rintro e w4 ⟨rfl, hb4⟩
                have hb4' := below_step hb hb4 hb.size
                go_wp2_with fail
                refine (HG.out _ hb4').mono ?_
                rintro e w5 ⟨rfl, hb5⟩
                have hb5' := below_step hb4' hb5 hb4'.size
                replace hb5 := hb4.trans (hb5.mono hb4.size)
                go_wp2
                try rw [Exit.noGoto_ret]
                go_ret
                exact ⟨by rw [HV.out]; rfl, below_step hbb hb5 hbb.size⟩
    · have HV : Hid (trailP gL s = t.size) := Lib.hid (by rw [← HTr.out, trail_empty h0])
      have h0' : ¬ (0 : Int) < (t.size : Int) := by omega
      go_wp2
      try rw [Exit.noGoto_ret]
      go_ret
      exact ⟨by rw [HV.out]; rfl, hbb⟩
end Go.Proofs.YthlnfefpdmecaaaGreatDoor

/-
  kerfref04: Name, walked.
-/
namespace Go.Proofs.YthlnfefpdmecaaaGreatDoor
open Go.RowKit Go.Maps

set_option maxRecDepth 100000 in
set_option maxHeartbeats 4000000 in
theorem vName_any (l : List UInt8) (w : World) (hs : l.length ≤ 9223372036854775807) : Calls Tryz.prog 151 #[.string (bytesOf l)] w fun e w' => e = .returned (.bool (nameL l)) ∧ Below w.heap.size w w' := by
  have hsz : (bytesOf l).size = l.length := bytesOf_size l
  go_enter Tryz.func151, Tryz.ntmps151
  go_wp2
  have hbw : Below w.heap.size w w := Below.refl _ _
  go_loop [3] (fun i => ∃ k : Nat, i = .int .i64 k ∧ k ≤ l.length ∧ Hid (nameU (l.take k) = true)) (fun i => l.length - (intOf i).toNat)
  case atStart => exact ⟨0, rfl, by omega, rfl⟩
  case round =>
    obtain ⟨k, rfl, hk, Hm⟩ := hrel
    by_cases hlt : k < l.length
    · have hkl : k < (bytesOf l).size := by rw [hsz]; exact hlt
      have hc := index_at (bytesOf l) k k rfl hkl
      obtain ⟨c, hce⟩ : ∃ c, (bytesOf l)[k]'hkl = c := ⟨_, rfl⟩
      have Hc : Hid (l[k]? = some c) := Lib.hid (by have := get_list hkl; rw [bytesOf_list, hce] at this; exact this)
      have hcc : (((bytesOf l)[k]'hkl).toNat : Int) = (c.toNat : Int) := by rw [hce]
      rw [hce] at hc
      clear hce
      have HN := Lib.hid (nameU_next Hc.out Hm.out)
      have HE : Hid (nameU (l.take (k + 1)) = false → nameL l = false) := Lib.hid (fun h => by rw [nameL_eq, nameU_take h, Bool.false_and])
      have hc0 : 0 ≤ (c.toNat : Int) := by omega
      have hc255 : (c.toNat : Int) ≤ 255 := by have := c.toNat_lt; omega
      have HLT : Hid ((65 ≤ (c.toNat : Int) ∧ (c.toNat : Int) ≤ 90) ∨ (97 ≤ (c.toNat : Int) ∧ (c.toNat : Int) ≤ 122) → letB c = true ∧ partB c = true) := Lib.hid (fun h => ⟨letB_t (by omega), partB_t (by omega)⟩)
      have HLF : Hid (¬ ((65 ≤ (c.toNat : Int) ∧ (c.toNat : Int) ≤ 90) ∨ (97 ≤ (c.toNat : Int) ∧ (c.toNat : Int) ≤ 122)) → letB c = false) := Lib.hid (fun h => letB_f (by omega))
      have HPT : Hid ((48 ≤ (c.toNat : Int) ∧ (c.toNat : Int) ≤ 57) ∨ (c.toNat : Int) = 95 → partB c = true) := Lib.hid (fun h => partB_t (by omega))
      have HPF : Hid (¬ ((65 ≤ (c.toNat : Int) ∧ (c.toNat : Int) ≤ 90) ∨ (97 ≤ (c.toNat : Int) ∧ (c.toNat : Int) ≤ 122) ∨ (48 ≤ (c.toNat : Int) ∧ (c.toNat : Int) ≤ 57) ∨ (c.toNat : Int) = 95) → partB c = false) := Lib.hid (fun h => partB_f (by omega))
      generalize (c.toNat : Int) = z at hc hcc hc0 hc255 HLT HLF HPT HPF
      rcases Nat.eq_zero_or_pos k with rfl | h0
      · rcases (by omega : (65 ≤ z ∧ z ≤ 90) ∨ (97 ≤ z ∧ z ≤ 122) ∨ (z < 65 ∨ (90 < z ∧ z < 97) ∨ 122 < z)) with ⟨hq, hq'⟩ | ⟨hq, hq'⟩ | hq
        iterate 2
          · have HV : Hid (nameU (l.take (0 + 1)) = true) := Lib.hid (by rw [HN.out, if_pos rfl]; exact (HLT.out (by omega)).1)
            clear HLT HLF HPT HPF HN HE
            try first | (have d65 : decide (65 ≤ z) = true := decide_eq_true (by omega)) | (have d65 : decide (65 ≤ z) = false := decide_eq_false (by omega))
            try first | (have d90 : decide (z ≤ 90) = true := decide_eq_true (by omega)) | (have d90 : decide (z ≤ 90) = false := decide_eq_false (by omega))
            try first | (have d97 : decide (97 ≤ z) = true := decide_eq_true (by omega)) | (have d97 : decide (97 ≤ z) = false := decide_eq_false (by omega))
            try first | (have d122 : decide (z ≤ 122) = true := decide_eq_true (by omega)) | (have d122 : decide (z ≤ 122) = false := decide_eq_false (by omega))
            try first | (have d48 : decide (z < 48) = true := decide_eq_true (by omega)) | (have d48 : decide (z < 48) = false := decide_eq_false (by omega))
            try first | (have d57 : decide (57 < z) = true := decide_eq_true (by omega)) | (have d57 : decide (57 < z) = false := decide_eq_false (by omega))
            try first | (have d95 : (z != 95) = true := bne_iff_ne.2 (by omega)) | (have d95 : (z != 95) = false := by rw [bne_eq_false_iff_eq]; omega)
            go_wp2
            refine ⟨⟨0 + 1, by go_num, by omega, HV⟩, ?_⟩
            simp [intOf]; omega
        · have HV : Hid (nameL l = false) := Lib.hid (HE.out (by rw [HN.out, if_pos rfl]; exact HLF.out (by omega)))
          clear HLT HLF HPT HPF HN HE
          rcases hq with hq | ⟨hq, hq'⟩ | hq
          all_goals
            try first | (have d65 : decide (65 ≤ z) = true := decide_eq_true (by omega)) | (have d65 : decide (65 ≤ z) = false := decide_eq_false (by omega))
            try first | (have d90 : decide (z ≤ 90) = true := decide_eq_true (by omega)) | (have d90 : decide (z ≤ 90) = false := decide_eq_false (by omega))
            try first | (have d97 : decide (97 ≤ z) = true := decide_eq_true (by omega)) | (have d97 : decide (97 ≤ z) = false := decide_eq_false (by omega))
            try first | (have d122 : decide (z ≤ 122) = true := decide_eq_true (by omega)) | (have d122 : decide (z ≤ 122) = false := decide_eq_false (by omega))
            try first | (have d48 : decide (z < 48) = true := decide_eq_true (by omega)) | (have d48 : decide (z < 48) = false := decide_eq_false (by omega))
            try first | (have d57 : decide (57 < z) = true := decide_eq_true (by omega)) | (have d57 : decide (57 < z) = false := decide_eq_false (by omega))
            try first | (have d95 : (z != 95) = true := bne_iff_ne.2 (by omega)) | (have d95 : (z != 95) = false := by rw [bne_eq_false_iff_eq]; omega)
            go_wp2
            go_ret
            exact ⟨by rw [HV.out]; rfl, hbw⟩
      · have hk0 : ((k : Int) == 0) = false := beq_eq_false_iff_ne.2 (by omega)
        rcases (by omega : (65 ≤ z ∧ z ≤ 90) ∨ (97 ≤ z ∧ z ≤ 122) ∨ (48 ≤ z ∧ z ≤ 57) ∨ z = 95 ∨ (z < 48 ∨ (57 < z ∧ z < 65) ∨ (90 < z ∧ z < 95) ∨ z = 96 ∨ 122 < z)) with ⟨hq, hq'⟩ | ⟨hq, hq'⟩ | ⟨hq, hq'⟩ | hq | hq
        iterate 4
          · have HV : Hid (nameU (l.take (k + 1)) = true) := Lib.hid (by rw [HN.out, if_neg (by omega)]; first | exact (HLT.out (by omega)).2 | exact HPT.out (by omega))
            clear HLT HLF HPT HPF HN HE
            try first | (have d65 : decide (65 ≤ z) = true := decide_eq_true (by omega)) | (have d65 : decide (65 ≤ z) = false := decide_eq_false (by omega))
            try first | (have d90 : decide (z ≤ 90) = true := decide_eq_true (by omega)) | (have d90 : decide (z ≤ 90) = false := decide_eq_false (by omega))
            try first | (have d97 : decide (97 ≤ z) = true := decide_eq_true (by omega)) | (have d97 : decide (97 ≤ z) = false := decide_eq_false (by omega))
            try first | (have d122 : decide (z ≤ 122) = true := decide_eq_true (by omega)) | (have d122 : decide (z ≤ 122) = false := decide_eq_false (by omega))
            try first | (have d48 : decide (z < 48) = true := decide_eq_true (by omega)) | (have d48 : decide (z < 48) = false := decide_eq_false (by omega))
            try first | (have d57 : decide (57 < z) = true := decide_eq_true (by omega)) | (have d57 : decide (57 < z) = false := decide_eq_false (by omega))
            try first | (have d95 : (z != 95) = true := bne_iff_ne.2 (by omega)) | (have d95 : (z != 95) = false := by rw [bne_eq_false_iff_eq]; omega)
            go_wp2
            refine ⟨⟨k + 1, by go_num, by omega, HV⟩, ?_⟩
            simp [intOf]; omega
        · have HV : Hid (nameL l = false) := Lib.hid (HE.out (by rw [HN.out, if_neg (by omega)]; exact HPF.out (by omega)))
          clear HLT HLF HPT HPF HN HE
          rcases hq with hq | ⟨hq, hq'⟩ | ⟨hq, hq'⟩ | hq | hq
          all_goals
            try first | (have d65 : decide (65 ≤ z) = true := decide_eq_true (by omega)) | (have d65 : decide (65 ≤ z) = false := decide_eq_false (by omega))
            try first | (have d90 : decide (z ≤ 90) = true := decide_eq_true (by omega)) | (have d90 : decide (z ≤ 90) = false := decide_eq_false (by omega))
            try first | (have d97 : decide (97 ≤ z) = true := decide_eq_true (by omega)) | (have d97 : decide (97 ≤ z) = false := decide_eq_false (by omega))
            try first | (have d122 : decide (z ≤ 122) = true := decide_eq_true (by omega)) | (have d122 : decide (z ≤ 122) = false := decide_eq_false (by omega))
            try first | (have d48 : decide (z < 48) = true := decide_eq_true (by omega)) | (have d48 : decide (z < 48) = false := decide_eq_false (by omega))
            try first | (have d57 : decide (57 < z) = true := decide_eq_true (by omega)) | (have d57 : decide (57 < z) = false := decide_eq_false (by omega))
            try first | (have d95 : (z != 95) = true := bne_iff_ne.2 (by omega)) | (have d95 : (z != 95) = false := by rw [bne_eq_false_iff_eq]; omega)
            go_wp2
            go_ret
            exact ⟨by rw [HV.out]; rfl, hbw⟩
    · have HE : Hid (nameL l = decide (1 ≤ l.length ∧ l.length ≤ 32)) := Lib.hid (by rw [nameL_eq, show nameU l = true by have := Hm.out; rwa [List.take_of_length_le (by omega)] at this, Bool.true_and])
      rcases (by omega : l.length = 0 ∨ (1 ≤ l.length ∧ l.length ≤ 32) ∨ 32 < l.length) with h | ⟨h, h'⟩ | h
      all_goals
        go_wp2
        go_ret
        exact ⟨ret_bool (by rw [HE.out]; first | exact (decide_eq_false (by omega)).symm | exact (decide_eq_true (by omega)).symm | (rw [decide_eq_decide]; omega)), hbw⟩

end Go.Proofs.YthlnfefpdmecaaaGreatDoor

/-
  PLAIN, for the walks of kerfref04: a rune in quotes by the document's word; the scan of a line, step by step; trimmed from both ends.
-/
namespace Go.Proofs.YthlnfefpdmecaaaGreatDoor

theorem runeAt_app : ∀ (p l : List UInt8) (a : Nat), runeAt (bytesOf (p ++ l)) (p.length + a) = runeAt (bytesOf l) a
  | [], l, a => by rw [List.nil_append, List.length_nil, Nat.zero_add]
  | c :: p, l, a => by rw [List.cons_append, List.length_cons, show p.length + 1 + a = (p.length + a) + 1 by omega, runeAt_sh]; exact runeAt_app p l a
theorem runeAt_drop (s : ByteArray) (a b : Nat) (h : a ≤ s.size) : runeAt s (a + b) = runeAt (bytesOf (s.data.toList.drop a)) b := by
  have h1 := runeAt_app (s.data.toList.take a) (s.data.toList.drop a) b
  rw [List.take_append_drop, bytesOf_data, List.length_take, size_data, Nat.min_eq_left h] at h1
  exact h1
/-- The document's word on a rune in quotes. -/
theorem quoted_qt (s : ByteArray) (a : Nat) (h : a ≤ s.size) : match qtL (s.data.toList.drop a) with
    | some k => (quotedP s a).2.2 = true ∧ (quotedP s a).2.1 + 2 = k
    | none => (quotedP s a).2.2 = false := by
  unfold quotedP
  cases hd : s.data.toList.drop a with
  | nil =>
    have : (rest s a).head? = none := by unfold rest; rw [hd]; rfl
    rw [if_neg (by rw [this]; simp)]; rfl
  | cons c r =>
    have h1 := runeAt_drop s a 1 h
    rw [hd] at h1
    rw [qtS_cons, ← h1]
    have h2 : (rest s a).head? = some c := by unfold rest; rw [hd]; rfl
    have h3 : (rest s (a + 1 + (runeAt s (a + 1)).2)).head? = r[(runeAt s (a + 1)).2]? := by
      unfold rest
      rw [Nat.add_assoc, ← List.drop_drop, hd, Nat.add_comm 1, List.drop_succ_cons, List.head?_drop]
    rw [h2, h3]
    by_cases hc : c = 39 ∧ (runeAt s (a + 1)).2 ≠ 0 ∧ r[(runeAt s (a + 1)).2]? = some 39
    · rw [if_pos hc, if_pos ⟨by rw [hc.1], hc.2⟩]
      exact ⟨rfl, rfl⟩
    · rw [if_neg hc, if_neg (fun k => hc ⟨by injection k.1, k.2⟩)]

def cutD (l : List UInt8) (i : Nat) (semi : Option Nat) : Nat × Option Nat := cutGo l.length l i semi
theorem cutD_fuel {f : Nat} {l : List UInt8} (i : Nat) (semi : Option Nat) (h : l.length ≤ f) : cutGo f l i semi = cutD l i semi := by
  unfold cutD
  rw [cutGo_eq f l i semi h, cutGo_eq l.length l i semi (Nat.le_refl _)]
/-- How far the scan has come. -/
def CutAt (L : List UInt8) (i : Nat) (semi : Option Nat) : Prop := i ≤ L.length ∧ cutD (L.drop i) i semi = cutD L 0 none ∧ ∀ k, semi = some k → k ≤ i
theorem cutAt_first (L : List UInt8) : CutAt L 0 none := ⟨by omega, by rw [List.drop_zero], fun k h => by cases h⟩
theorem cutAt_qt {L : List UInt8} {i k : Nat} {semi : Option Nat} (h : CutAt L i semi) (hq : qtL (L.drop i) = some k) : CutAt L (i + k) semi := by
  have hk := qtL_some hq
  rw [List.length_drop] at hk
  refine ⟨by omega, ?_, fun j hj => by have := h.2.2 j hj; omega⟩
  rw [← h.2.1]
  cases hd : L.drop i with
  | nil => rw [hd] at hq; cases hq
  | cons x r =>
    rw [hd] at hq
    unfold cutD
    rw [List.length_cons, cutGo]
    simp only [hq]
    have h2 : (x :: r).drop k = L.drop (i + k) := by rw [← hd, List.drop_drop]
    rw [h2]
    have h3 : (L.drop (i + k)).length ≤ r.length := by
      have : (L.drop i).length = r.length + 1 := by rw [hd]; rfl
      rw [List.length_drop] at this ⊢; omega
    rw [cutD_fuel (i + k) semi h3]; rfl
section
variable {L : List UInt8} {i : Nat} {semi : Option Nat} {x : UInt8} (h : CutAt L i semi) (hx : L[i]? = some x) (hq : qtL (L.drop i) = none)
include h hx hq
theorem cutAt_step : cutD L 0 none = if x = 35 then (i, semi) else if x = 59 ∧ semi = none then cutD (L.drop (i + 1)) (i + 1) (some i) else cutD (L.drop (i + 1)) (i + 1) semi := by
  rw [← h.2.1, drop_at hx]
  rw [drop_at hx] at hq
  unfold cutD
  rw [List.length_cons, cutGo]
  simp only [hq]
theorem cutAt_hash (he : x = 35) : cutD L 0 none = (i, semi) := by rw [cutAt_step h hx hq, if_pos he]
theorem cutAt_semi (he : x = 59) (hs : semi = none) : CutAt L (i + 1) (some i) :=
  ⟨(List.getElem?_eq_some_iff.1 hx).1, by rw [cutAt_step h hx hq, if_neg (by rw [he]; decide), if_pos ⟨he, hs⟩], fun k hk => by injection hk with hk; omega⟩
theorem cutAt_go (he : x ≠ 35) (hs : ¬ (x = 59 ∧ semi = none)) : CutAt L (i + 1) semi :=
  ⟨(List.getElem?_eq_some_iff.1 hx).1, by rw [cutAt_step h hx hq, if_neg he, if_neg hs], fun k hk => by have := h.2.2 k hk; omega⟩
end
theorem cutAt_end {L : List UInt8} {i : Nat} {semi : Option Nat} (h : CutAt L i semi) (hi : ¬ i < L.length) : cutD L 0 none = (L.length, semi) := by
  rw [← h.2.1, List.drop_of_length_le (by omega)]
  have : i = L.length := by have := h.1; omega
  rw [← this]; rfl
theorem cutD_is (L : List UInt8) : cutD L 0 none = (hashP L, findP 59 (L.take (hashP L))) := by
  unfold cutD
  rw [cutGo_eq L.length L 0 none (Nat.le_refl _), Nat.zero_add]
  congr 1
  cases findP 59 (L.take (hashP L)) <;> rfl

theorem ext_bytes (l : List UInt8) (a : Nat) : (bytesOf l).extract a (bytesOf l).size = bytesOf (l.drop a) := by
  apply ByteArray.ext; apply Array.toList_inj.1
  rw [rest_extract, bytesOf_list]; unfold rest; rw [bytesOf_list]
theorem ext_bytes0 (l : List UInt8) (a : Nat) : (bytesOf l).extract 0 a = bytesOf (l.take a) := by
  apply ByteArray.ext; apply Array.toList_inj.1
  rw [Lib.extract_data, bytesOf_list, bytesOf_list]; simp
theorem ext_bytes2 (l : List UInt8) (a b : Nat) : (bytesOf l).extract a b = bytesOf ((l.drop a).take (b - a)) := by
  apply ByteArray.ext; apply Array.toList_inj.1
  rw [Lib.extract_data, bytesOf_list, bytesOf_list]
theorem trim_last {l : List UInt8} {c : UInt8} (hl : l.getLast? = some c) : (blkB c = true → trimR l = trimR (l.take (l.length - 1))) ∧ (blkB c = false → trimR l = l) := by
  have hs : l = l.dropLast ++ [c] := by
    rcases List.eq_nil_or_concat l with rfl | ⟨o, y, rfl⟩
    · cases hl
    · simp at hl; subst hl; simp
  have hd : l.take (l.length - 1) = l.dropLast := by rw [List.dropLast_eq_take]
  rw [hd]
  constructor
  · intro h
    conv => lhs; rw [hs]
    exact trimR_app (by intro d hd; simp at hd; subst hd; exact h)
  · intro h
    unfold trimR
    rw [hs, List.reverse_append]
    rw [show [c].reverse ++ l.dropLast.reverse = c :: l.dropLast.reverse from rfl, dropWhile_stop h]
    simp
theorem trimR_nil : trimR [] = [] := rfl
theorem drop_blank {c : UInt8} {r : List UInt8} (h : blkB c = true) : (c :: r).dropWhile blkB = r.dropWhile blkB := by rw [List.dropWhile_cons, if_pos h]
end Go.Proofs.YthlnfefpdmecaaaGreatDoor

/-
  kerfref02.Hex: a rune's number in hexadecimal digits.
-/
namespace Go.Proofs.YthlnfefpdmecaaaGreatDoor
open Go.RowKit

theorem hexW_succ (j n : Nat) : hexW (j + 1) n = hexD (n / 16 ^ j % 16) :: hexW j n := by
  induction j generalizing n with
  | zero => simp [hexW]
  | succ j ih => rw [hexW, ih, hexW, Nat.div_div_eq_div_mul, ← Nat.pow_succ']; rfl
theorem digits_at (d : Nat) (h : d < 16) : ((⟨#[48, 49, 50, 51, 52, 53, 54, 55, 56, 57, 65, 66, 67, 68, 69, 70]⟩ : ByteArray).extract d (d + 1)).data.toList = [hexD d] := by
  rcases (by omega : d = 0 ∨ d = 1 ∨ d = 2 ∨ d = 3 ∨ d = 4 ∨ d = 5 ∨ d = 6 ∨ d = 7 ∨ d = 8 ∨ d = 9 ∨ d = 10 ∨ d = 11 ∨ d = 12 ∨ d = 13 ∨ d = 14 ∨ d = 15) with rfl | rfl | rfl | rfl | rfl | rfl | rfl | rfl | rfl | rfl | rfl | rfl | rfl | rfl | rfl | rfl <;> rfl
/-- How far Hex has come. -/
def HexAt (r j x : Nat) (t : ByteArray) : Prop := x = r / 16 ^ j ∧ t.data.toList = hexW j r ∧ j ≤ hexK r
theorem hexAt_next {r j x d q : Nat} {t : ByteArray} (h : HexAt r j x t) (hr : r ≤ 1114111) (hc : 0 < x ∨ j < 4) (hd : x = 16 * q + d) (h16 : d < 16) :
    HexAt r (j + 1) q ((⟨#[48, 49, 50, 51, 52, 53, 54, 55, 56, 57, 65, 66, 67, 68, 69, 70]⟩ : ByteArray).extract d (d + 1) ++ t) := by
  obtain ⟨rfl, h2, h3⟩ := h
  refine ⟨by rw [Nat.pow_succ, ← Nat.div_div_eq_div_mul]; omega, ?_, ?_⟩
  · rw [ByteArray.data_append, Array.toList_append, digits_at d h16, h2, hexW_succ]
    have : r / 16 ^ j % 16 = d := by omega
    rw [this]; rfl
  · unfold hexK at h3 ⊢
    rcases hc with hc | hc
    · rcases (by omega : j < 4 ∨ j = 4 ∨ j = 5 ∨ 6 ≤ j) with h | rfl | rfl | h
      · split <;> (try split) <;> omega
      · have : 0 < r / 65536 := hc
        split <;> (try split) <;> omega
      · have : 0 < r / 1048576 := hc
        split <;> (try split) <;> omega
      · have h7 : 16 ^ 6 ≤ 16 ^ j := Nat.pow_le_pow_right (by omega) h
        have h8 : (16 : Nat) ^ 6 = 16777216 := by decide
        have h6 : r / 16 ^ j = 0 := Nat.div_eq_of_lt (Nat.lt_of_lt_of_le (show r < 16 ^ 6 by rw [h8]; omega) h7)
        omega
    · split <;> (try split) <;> omega
theorem hexAt_end {r j : Nat} {t : ByteArray} (h : HexAt r j 0 t) (h4 : 4 ≤ j) : t = ⟨(hexS r).toArray⟩ := by
  obtain ⟨h1, h2, h3⟩ := h
  have hj : j = hexK r := by
    unfold hexK at h3 ⊢
    have hlt : r < 16 ^ j := by
      rcases Nat.lt_or_ge r (16 ^ j) with h | h
      · exact h
      · have := Nat.div_pos h (Nat.pow_pos (by decide : 0 < 16)); omega
    rcases (by omega : j = 4 ∨ j = 5 ∨ 6 ≤ j) with rfl | rfl | h
    · have : r < 65536 := hlt
      rw [if_pos this]
    · have : r < 1048576 := hlt
      split at h3
      · omega
      · rw [if_neg (by assumption), if_pos this]
    · have h9 : (if r < 65536 then 4 else if r < 1048576 then 5 else 6) ≤ 6 := by split <;> (try split) <;> omega
      have h10 : j = 6 := by omega
      subst h10
      by_cases h11 : r < 65536
      · rw [if_pos h11] at h3; omega
      · by_cases h12 : r < 1048576
        · rw [if_neg h11, if_pos h12] at h3; omega
        · rw [if_neg h11, if_neg h12]
  subst hj
  apply ByteArray.ext
  rw [← Array.toList_inj, h2]; rfl
theorem hexAt_len {r j x : Nat} {t : ByteArray} (h : HexAt r j x t) : t.size = j := by rw [← size_data, h.2.1, hexW_len]

end Go.Proofs.YthlnfefpdmecaaaGreatDoor

/-
  strings.Builder: copyCheck, WriteString (the shelf's layings fall at this dump).
-/
namespace Go.Proofs.YthlnfefpdmecaaaGreatDoor
open Go.RowKit

theorem bldSize : (Tryz.prog.info? 233).map (·.size) = some 2 := by kernel_rfl
theorem bldLies : liesAt Tryz.prog Tryz.prog.depth 233 (2 / Tryz.prog.cellsOf 233) 0 233 1 = true := by kernel_rfl
theorem infoU8 : (Tryz.prog.info? 5).map (fun i => (i.zero, i.size, i.bytes)) = some (some (.int .u8 0), 1, 1) := by kernel_rfl

set_option maxRecDepth 100000 in
set_option maxHeartbeats 1000000 in
theorem copyCheck_fresh (b : Nat) (w : World) (h0 : w.cell? ⟨b, 0, none⟩ = some (.pointer none)) (hsh : w.shape? b = some (233, 2)) (hfz : w.frozen? ⟨b, 0, none⟩ = false) :
    Calls Tryz.prog 278 #[.pointer (some ⟨b, 0, none⟩)] w fun e w' => e = .returned (.tuple #[]) ∧ w.setCell ⟨b, 0, none⟩ (.pointer (some ⟨b, 0, none⟩)) = w' := by
  obtain ⟨j, hj, hjs⟩ := Option.map_eq_some_iff.1 bldSize
  go_enter Tryz.func278, Tryz.ntmps278
  go_wp2
  rw [Lib.run_to_unsafe w ⟨b, 0, none⟩ Tryz.underlying231 Tryz.underlying278 hj (by rw [hjs]; decide) hsh (Nat.zero_lt_succ 1)]
  simp only [Result.andThen]
  rw [Oper.upon_value]
  go_wp2
  rw [run_callFunc_extern Tryz.func306 (by kernel_rfl) (by kernel_rfl) (by kernel_rfl) (e := Extern.AbiNoEscape.same) (by kernel_rfl)]
  rw [Lib.run_noEscape]
  simp only [Result.andThen]
  rw [Oper.upon_value]
  go_wp2
  rw [Lib.run_from_unsafe w ⟨b, 0, none⟩ Tryz.underlying278 Tryz.underlying231 hj hsh bldLies]
  simp only [Result.andThen]
  rw [Oper.upon_value]
  go_wp2
  go_end0
  exact ⟨rfl, rfl⟩
set_option maxRecDepth 100000 in
set_option maxHeartbeats 1000000 in
theorem copyCheck_used (b : Nat) (w : World) (h0 : w.cell? ⟨b, 0, none⟩ = some (.pointer (some ⟨b, 0, none⟩))) :
    Calls Tryz.prog 278 #[.pointer (some ⟨b, 0, none⟩)] w fun e w' => e = .returned (.tuple #[]) ∧ w = w' := by
  obtain ⟨j, hj, _⟩ := Option.map_eq_some_iff.1 bldSize
  go_enter Tryz.func278, Tryz.ntmps278
  go_wp2
  rw [Lib.run_neq_ptr_same w _ Tryz.underlying231 hj]
  go_wp2
  go_end0
  exact ⟨rfl, rfl⟩
/-- A builder at block b that holds the bytes l; its row lies at B or beyond. -/
def Bld (w : World) (b B : Nat) (l : List UInt8) : Prop :=
  ∃ p v, (p = .pointer none ∨ p = .pointer (some ⟨b, 0, none⟩)) ∧ w.heap[b]? = some (.cells #[p, v] 233 (0, 0)) ∧ w.ownsRowF B 5 1 v l.length (Lib.byteCells l)
theorem Bld.new (w : World) (B : Nat) : Bld (w.alloc (.cells #[.pointer none, .slice none 0 0] 233)) w.heap.size B [] :=
  ⟨_, _, .inl rfl, heap_alloc_new w _, World.ownsRowF_nil _ _ _ _⟩
theorem Bld.lt {w : World} {b B : Nat} {l : List UInt8} (h : Bld w b B l) : b < w.heap.size := by
  obtain ⟨p, v, _, hb, _⟩ := h; exact (Array.getElem?_eq_some_iff.1 hb).1
theorem Bld.row_ne {w : World} {b B : Nat} {n : Nat} {xs : List Value} {cs : Array Value} {v : Value} (hown : w.ownsRowF B 5 1 v n xs) (hb : w.heap[b]? = some (.cells cs 233 (0, 0))) : v.ownBlock ≠ some b := Lib.ownBlock_neF hown hb (by decide)
theorem Bld.keep {w w' : World} {b B : Nat} {l : List UInt8} (h : Bld w b B l) (hs : ∀ (k : Nat) (o : Obj), w.heap[k]? = some o → o.isCells = true → k = b ∨ B ≤ k → w'.heap[k]? = some o) : Bld w' b B l := by
  obtain ⟨p, v, hp, hb, hown⟩ := h
  refine ⟨p, v, hp, hs b _ hb rfl (.inl rfl), hown.1, ?_⟩
  rcases hown.2 with h0 | ⟨g, cap, cur, fz, hv, hg, hh, r⟩
  · exact .inl h0
  · exact .inr ⟨g, cap, cur, fz, hv, hg, hs g _ hh rfl (.inr hg), r⟩
theorem Bld.below {w w' : World} {b B : Nat} {l : List UInt8} (h : Bld w b B l) (hb : Below w.heap.size w w') : Bld w' b B l := h.keep fun k _ hk _ _ => (hb.block k (Array.getElem?_eq_some_iff.1 hk).1).trans hk
theorem Bld.kept {w w' : World} {row : Option Nat} {b B : Nat} {l : List UInt8} (h : Bld w b B l) (hg : w.grownBy w' row) (hr : ∀ r, row = some r → ∃ o : Obj, w.heap[r]? = some o ∧ o.isCells = false) : Bld w' b B l :=
  h.keep fun k o hk hc _ => (hg.block k (Array.getElem?_eq_some_iff.1 hk).1 (by
    rintro rfl
    obtain ⟨o', h1, h2⟩ := hr k rfl
    rw [hk] at h1; cases h1; rw [hc] at h2; cases h2)).trans hk
theorem Bld.more {w : World} {b B B' : Nat} {l : List UInt8} (h : Bld w b B l) (hB : B' ≤ B) : Bld w b B' l := by
  obtain ⟨p, v, hp, hb, hown⟩ := h
  refine ⟨p, v, hp, hb, hown.1, ?_⟩
  rcases hown.2 with h0 | ⟨g, cap, cur, fz, hv, hg, r⟩
  · exact .inl h0
  · exact .inr ⟨g, cap, cur, fz, hv, by omega, r⟩
theorem Bld.is {w : World} {b B : Nat} {l : List UInt8} (h : Bld w b B l) (hB : b ≤ B) : Lib.IsBuilderF 233 5 b b (Lib.byteCells l) w := by
  obtain ⟨p, v, hp, hb, hown⟩ := h.more hB
  have hl : (Lib.byteCells l).length = l.length := Lib.byteCells_length l
  rcases hp with rfl | rfl
  · exact .inl ⟨Nat.le_refl _, v, hb, by rw [hl]; exact hown, Bld.row_ne hown hb⟩
  · exact .inr ⟨Nat.le_refl _, v, hb, by rw [hl]; exact hown, Bld.row_ne hown hb⟩
theorem bString_any (b B : Nat) (l : List UInt8) (w : World) (h : Bld w b B l) (hB : b ≤ B) :
    Calls Tryz.prog 245 #[.pointer (some ⟨b, 0, none⟩)] w fun e w' => e = .returned (.string ⟨l.toArray⟩) ∧ Below b w w' ∧ Lib.OthersKept 5 (some b) w w' :=
  (Tryz.Builder_String_any_k b b l w (h.is hB) (Nat.le_of_lt h.lt)).mono fun _ _ ⟨h1, _, h2, h3⟩ => ⟨h1, h2, h3⟩

set_option maxRecDepth 100000 in
set_option maxHeartbeats 1000000 in
theorem lWriteString_any (b B : Nat) (l : List UInt8) (s : ByteArray) (w : World) (h : Bld w b B l) (hbB : b < B) (hlen : l.length + s.size ≤ 140737488355328) (hBw : B ≤ w.heap.size) :
    Calls Tryz.prog 244 #[.pointer (some ⟨b, 0, none⟩), .string s] w fun e w' => e = .returned (.tuple #[.int .i64 s.size, .nilIface]) ∧ Bld w' b B (l ++ s.data.toList) ∧ Below b w w' ∧ (∀ k, k ≠ b → k < B → w'.heap[k]? = w.heap[k]?) ∧ KeepsOthers w w' := by
  obtain ⟨i0, hi, hz0, hz1, hz2⟩ := info_parts infoU8
  obtain ⟨p, v, hp, hbk, hown⟩ := h
  have hcells : ∀ o, w.heap[b]? = some o → o.isCells = true := fun o ho => by rw [hbk] at ho; cases ho; rfl
  have Hcells := Lib.hid hcells
  clear hcells
  have Hchk : Hid (Calls Tryz.prog 278 #[.pointer (some ⟨b, 0, none⟩)] w fun e w' => e = .returned (.tuple #[]) ∧ w'.heap[b]? = some (.cells #[.pointer (some ⟨b, 0, none⟩), v] 233 (0, 0)) ∧ w'.ownsRowF B 5 1 v l.length (Lib.byteCells l) ∧ w.grownBy w' (some b)) := by
    rcases hp with rfl | rfl
    · refine Lib.hid ((copyCheck_fresh b w (by rw [Lib.cell_of_heap hbk]; rfl) (by simp [World.shape?, hbk]) (Lib.frozen_of_heap hbk 0)).mono ?_)
      rintro e w' ⟨rfl, rfl⟩
      have hg : w.grownBy (w.setCell ⟨b, 0, none⟩ (.pointer (some ⟨b, 0, none⟩))) (some b) :=
        ⟨rfl, rfl, rfl, by simp [World.setCell], fun k _ hk => Below.heap_setCell w ⟨b, 0, none⟩ _ k (fun e => hk (by rw [e]))⟩
      refine ⟨rfl, ?_, hown.kept hg ?_, hg⟩
      · simp [World.setCell, Array.getElem?_modify, hbk]
      · exact .inr (Bld.row_ne hown hbk)
    · refine Lib.hid ((copyCheck_used b w (by rw [Lib.cell_of_heap hbk]; rfl)).mono ?_)
      rintro e w' ⟨rfl, rfl⟩
      exact ⟨rfl, hbk, hown, World.grownBy.refl _ _⟩
  clear hp hown hbk
  go_enter Tryz.func244, Tryz.ntmps244
  go_wp2_with fail
  refine Hchk.out.mono ?_
  clear Hchk
  rintro e w1 ⟨rfl, hbk, hown, hg1⟩
  have c0 : w1.cell? ⟨b, 0, none⟩ = some (.pointer (some ⟨b, 0, none⟩)) := by rw [Lib.cell_of_heap hbk]; rfl
  have c1 : w1.cell? ⟨b, 1, none⟩ = some v := by rw [Lib.cell_of_heap hbk]; rfl
  have hs1 := hg1.size
  go_wp2_with (at_builtin; refine Lib.wpList_append_own_stringF _ rfl _ _ 112 9 rfl B 5 i0 Tryz.underlying112 Tryz.underlying9 hi hz0 hz1 hz2 _ _ _ rfl hown s rfl ?c3 ?c4 ?c5 ?_)
  case c3 => unfold maxLen; omega
  case c4 => omega
  case c5 => omega
  intro v' w2 hown' hgrow _
  have hlt : b < w1.heap.size := (Array.getElem?_eq_some_iff.1 hbk).1
  have hne := Bld.row_ne hown hbk
  have hb2 : w2.heap[b]? = some (.cells #[.pointer (some ⟨b, 0, none⟩), v] 233 (0, 0)) := by
    rw [hgrow.block b hlt (fun e => hne e.symm)]
    exact hbk
  have d0 : w2.cell? ⟨b, 0, none⟩ = some (.pointer (some ⟨b, 0, none⟩)) := by rw [Lib.cell_of_heap hb2]; rfl
  have d1 : w2.cell? ⟨b, 1, none⟩ = some v := by rw [Lib.cell_of_heap hb2]; rfl
  have f1 : w2.frozen? ⟨b, 1, none⟩ = false := Lib.frozen_of_heap hb2 1
  obtain ⟨ao, n', cap, rfl⟩ : ∃ ao n' cap, v' = .slice ao n' cap := by
    rcases hown'.2 with ⟨hv, _⟩ | ⟨g, cap, cur, fz, hv, _⟩
    · exact ⟨_, _, _, hv⟩
    · exact ⟨_, _, _, hv⟩
  have hs2 := hgrow.size
  go_wp2
  go_ret2
  have hblk : ∀ k, k ≠ b → k < B → (w2.setCell ⟨b, 1, none⟩ (.slice ao n' cap)).heap[k]? = w.heap[k]? := fun k hk hkB => by
    rw [Below.heap_setCell w2 ⟨b, 1, none⟩ _ k hk, hgrow.block k (by omega) (fun e => by have := (hown.lt k e.symm).1; omega), hg1.block k (by omega) (fun e => by injection e; omega)]
  refine ⟨rfl, ⟨_, .slice ao n' cap, .inr rfl, ?_, ?_⟩, ⟨?_, ?_, ?_, ?_, fun k hk => hblk k (by omega) (by omega)⟩, hblk, ?_⟩
  · simp [World.setCell, Array.getElem?_modify, hb2]
  · have hne' := Bld.row_ne hown' hb2
    have hg3 : w2.grownBy (w2.setCell ⟨b, 1, none⟩ (.slice ao n' cap)) (some b) :=
      ⟨rfl, rfl, rfl, by simp [World.setCell], fun k _ hk => Below.heap_setCell w2 ⟨b, 1, none⟩ _ k (fun e => hk (by rw [e]))⟩
    have h := hown'.kept hg3 (.inr hne')
    have e1 : Lib.byteCells (l ++ s.data.toList) = Lib.byteCells l ++ Lib.strCells s := by simp [Lib.byteCells, Lib.strCells]
    rw [e1, List.length_append, Array.length_toList]
    exact h
  · exact hgrow.os.trans hg1.os
  · exact hgrow.tape.trans hg1.tape
  · exact hgrow.output.trans hg1.output
  · simp [World.setCell]; omega
  · refine ⟨by simp [World.setCell]; omega, fun k o hk ho => ?_⟩
    have hkb : k ≠ b := fun e => by
      subst e
      have := Hcells.out o hk
      rw [ho] at this; cases this
    rw [Below.heap_setCell w2 ⟨b, 1, none⟩ _ k hkb, hgrow.block k (by have := (Array.getElem?_eq_some_iff.1 hk).1; omega) ?_, hg1.block k (Array.getElem?_eq_some_iff.1 hk).1 (fun e => by injection e; omega)]
    · exact hk
    · intro e
      obtain ⟨c, fz, hc⟩ := Lib.ownsRowF_kind hown k e.symm
      rw [hg1.block k (Array.getElem?_eq_some_iff.1 hk).1 (fun e => by injection e; omega), hk] at hc
      cases hc; cases ho
end Go.Proofs.YthlnfefpdmecaaaGreatDoor

/-
  strings.Builder: Grow at a fresh builder; WriteByte.
-/
namespace Go.Proofs.YthlnfefpdmecaaaGreatDoor
open Go.RowKit

theorem bGrow_any (b n : Nat) (w : World) (hbk : w.heap[b]? = some (.cells #[.pointer none, .slice none 0 0] 233 (0, 0))) (hn : n ≤ 281474976710656) :
    Calls Tryz.prog 243 #[.pointer (some ⟨b, 0, none⟩), .int .i64 n] w fun e w' => e = .returned (.tuple #[]) ∧ Bld w' b (b + 1) [] ∧ Below b w w' := by
  have hlt : b < w.heap.size := (Array.getElem?_eq_some_iff.1 hbk).1
  refine (Tryz.Builder_Grow_fresh b b n w (Nat.le_refl _) hbk (Nat.le_of_lt hlt) hn).mono ?_
  rintro e w' ⟨rfl, ⟨_, v, h1, h2, h3⟩, hb⟩
  refine ⟨rfl, ⟨_, v, .inr rfl, h1, ?_⟩, hb⟩
  have h4 := World.ownsRowF_of h2
  refine ⟨h4.1, ?_⟩
  rcases h4.2 with h | ⟨g, cap, cur, fz, hv, hg, r⟩
  · exact .inl h
  · refine .inr ⟨g, cap, cur, fz, hv, ?_, r⟩
    rw [hv] at h3
    have : g ≠ b := fun e => h3 (by rw [e]; rfl)
    omega

theorem cell_new1 (w : World) {t : TypeId} (x : Value) : ∀ j u, [x][j]? = some u → (w.alloc (.cells #[x] t)).cell? ((⟨w.heap.size, 0, none⟩ : Addr).add j) = some u := fun j u h => by
  match j, h with
  | 0, h =>
    obtain rfl : x = u := by simpa using h
    exact (Blk.new w t #[x]).cell 0

end Go.Proofs.YthlnfefpdmecaaaGreatDoor

/-
  strings.ToUpper of a text of ASCII bytes.
-/
namespace Go.Proofs.YthlnfefpdmecaaaGreatDoor
open Go.RowKit

def upB (c : UInt8) : UInt8 := if 97 ≤ c.toNat ∧ c.toNat ≤ 122 then c - 32 else c
def lowP (c : UInt8) : Prop := 97 ≤ c.toNat ∧ c.toNat ≤ 122
theorem upB_low {c : UInt8} (h : lowP c) : upB c = c - 32 := if_pos h
theorem upB_not {c : UInt8} (h : ¬ lowP c) : upB c = c := if_neg h
theorem upB_nat {c : UInt8} (h : lowP c) : ((c - 32 : UInt8).toNat : Int) = (c.toNat : Int) - 32 := by
  have h1 : (32 : UInt8) ≤ c := by rw [UInt8.le_iff_toNat_le]; have := h.1; show 32 ≤ c.toNat; omega
  rw [UInt8.toNat_sub_of_le _ _ h1]
  have := h.1
  show ((c.toNat - 32 : Nat) : Int) = _
  omega
/-- How far the upper-case text has come. -/
def UpAt (s : ByteArray) (i p : Nat) (l : List UInt8) : Prop := p ≤ i ∧ i ≤ s.size ∧ l = (s.data.toList.take p).map upB ∧ ∀ k c, p ≤ k → k < i → s.data.toList[k]? = some c → ¬ lowP c
theorem map_not {l : List UInt8} (h : ∀ c ∈ l, ¬ lowP c) : l.map upB = l := by
  induction l with
  | nil => rfl
  | cons c l ih => rw [List.map_cons, upB_not (h c (by simp)), ih (fun d hd => h d (by simp [hd]))]
theorem upAt_seg {s : ByteArray} {i p : Nat} {l : List UInt8} (h : UpAt s i p l) : l ++ (s.extract p i).data.toList = (s.data.toList.take i).map upB := by
  obtain ⟨h1, h2, rfl, h4⟩ := h
  have e : s.data.toList.take i = s.data.toList.take p ++ (s.extract p i).data.toList := by
    rw [Lib.extract_data, ← List.drop_take]
    have := (List.take_append_drop p (s.data.toList.take i)).symm
    rw [List.take_take, Nat.min_eq_left h1] at this
    exact this
  rw [e, List.map_append, map_not (l := (s.extract p i).data.toList)]
  intro c hc
  obtain ⟨k, hk, hkc⟩ := List.getElem_of_mem hc
  have hk' : (s.extract p i).data.toList[k]? = some c := by rw [List.getElem?_eq_getElem hk, hkc]
  rw [Lib.extract_data] at hk'
  have hlt : k < i - p := by
    have := (List.getElem?_eq_some_iff.1 hk').1
    rw [List.length_take] at this; omega
  rw [List.getElem?_take_of_lt hlt, List.getElem?_drop] at hk'
  exact h4 (p + k) c (by omega) (by omega) hk'
theorem upAt_skip {s : ByteArray} {i p : Nat} {l : List UInt8} {c : UInt8} (h : UpAt s i p l) (hi : i < s.size) (hc : s.data.toList[i]? = some c) (hn : ¬ lowP c) : UpAt s (i + 1) p l :=
  ⟨by have := h.1; omega, by omega, h.2.2.1, fun k d hk hk2 hd => by
    rcases Nat.lt_or_ge k i with hlt | hge
    · exact h.2.2.2 k d hk hlt hd
    · obtain rfl : k = i := by omega
      rw [hc] at hd; cases hd; exact hn⟩
theorem upAt_put {s : ByteArray} {i p : Nat} {l : List UInt8} {c : UInt8} (h : UpAt s i p l) (hi : i < s.size) (hc : s.data.toList[i]? = some c) (hn : lowP c) : UpAt s (i + 1) (i + 1) (l ++ (s.extract p i).data.toList ++ [c - 32]) :=
  ⟨by omega, by omega, by rw [upAt_seg h, List.take_add_one, hc, Option.toList_some, List.map_append, List.map_singleton, upB_low hn], fun k d hk hk2 _ => by omega⟩
theorem upAt_len {s : ByteArray} {i p : Nat} {l : List UInt8} (h : UpAt s i p l) : l.length = p := by
  have h1 := h.1; have h2 := h.2.1
  rw [h.2.2.1, List.length_map, List.length_take, size_data]; omega

end Go.Proofs.YthlnfefpdmecaaaGreatDoor

/-
  strings.Repeat of one nought, up to three times.
-/
namespace Go.Proofs.YthlnfefpdmecaaaGreatDoor
open Go.RowKit

theorem hasPre_any (s p : ByteArray) (b : Bool) (w : World) (h : Lib.hasPrefix s.data.toList p.data.toList = b) : Calls Tryz.prog 274 #[.string s, .string p] w fun e w' => e = .returned (.bool b) ∧ w = w' :=
  (Tryz.strings_HasPrefix s p w).mono fun _ _ ⟨h1, h2⟩ => ⟨by rw [h1, h], h2.symm⟩
end Go.Proofs.YthlnfefpdmecaaaGreatDoor

/-
  runes.spell: a rune's spelling.
-/
namespace Go.Proofs.YthlnfefpdmecaaaGreatDoor
open Go.RowKit

theorem upB_lowD (d : Nat) (h : d < 16) : upB (lowD d) = hexD d := by
  rcases (by omega : d = 0 ∨ d = 1 ∨ d = 2 ∨ d = 3 ∨ d = 4 ∨ d = 5 ∨ d = 6 ∨ d = 7 ∨ d = 8 ∨ d = 9 ∨ d = 10 ∨ d = 11 ∨ d = 12 ∨ d = 13 ∨ d = 14 ∨ d = 15) with rfl | rfl | rfl | rfl | rfl | rfl | rfl | rfl | rfl | rfl | rfl | rfl | rfl | rfl | rfl | rfl <;> rfl
theorem lowD_lt (d : Nat) (h : d < 16) : (lowD d).toNat < 128 := by
  rcases (by omega : d = 0 ∨ d = 1 ∨ d = 2 ∨ d = 3 ∨ d = 4 ∨ d = 5 ∨ d = 6 ∨ d = 7 ∨ d = 8 ∨ d = 9 ∨ d = 10 ∨ d = 11 ∨ d = 12 ∨ d = 13 ∨ d = 14 ∨ d = 15) with rfl | rfl | rfl | rfl | rfl | rfl | rfl | rfl | rfl | rfl | rfl | rfl | rfl | rfl | rfl | rfl <;> decide
theorem up_lowW : ∀ (k n : Nat), (lowW k n).map upB = hexW k n
  | 0, _ => rfl
  | k + 1, n => by rw [lowW, List.map_append, up_lowW k, List.map_singleton, upB_lowD _ (Nat.mod_lt _ (by decide)), hexW]
theorem lowW_ascii : ∀ (k n : Nat), ∀ c ∈ lowW k n, c.toNat < 128
  | 0, _, c, h => by simp [lowW] at h
  | k + 1, n, c, h => by
    rw [lowW] at h
    rcases List.mem_append.1 h with h | h
    · exact lowW_ascii k _ c h
    · simp at h; subst h; exact lowD_lt _ (Nat.mod_lt _ (by decide))
theorem hex_pad (n : Nat) : List.replicate (4 - hexL n) (48 : UInt8) ++ hexW (hexL n) n = hexS n := by
  unfold hexS
  by_cases h1 : n < 16
  · have e1 : hexL n = 1 := by unfold hexL; rw [if_pos h1]
    have e2 : hexK n = 4 := by unfold hexK; rw [if_pos (by omega)]
    rw [e1, e2, hexW_succ 3, hexW_succ 2, hexW_succ 1]
    have a1 : n / 16 ^ 3 % 16 = 0 := by rw [show (16 : Nat) ^ 3 = 4096 by decide]; omega
    have a2 : n / 16 ^ 2 % 16 = 0 := by rw [show (16 : Nat) ^ 2 = 256 by decide]; omega
    have a3 : n / 16 ^ 1 % 16 = 0 := by rw [show (16 : Nat) ^ 1 = 16 by decide]; omega
    rw [a1, a2, a3]; rfl
  · by_cases h2 : n < 256
    · have e1 : hexL n = 2 := by unfold hexL; rw [if_neg h1, if_pos h2]
      have e2 : hexK n = 4 := by unfold hexK; rw [if_pos (by omega)]
      rw [e1, e2, hexW_succ 3, hexW_succ 2]
      have a1 : n / 16 ^ 3 % 16 = 0 := by rw [show (16 : Nat) ^ 3 = 4096 by decide]; omega
      have a2 : n / 16 ^ 2 % 16 = 0 := by rw [show (16 : Nat) ^ 2 = 256 by decide]; omega
      rw [a1, a2]; rfl
    · by_cases h3 : n < 4096
      · have e1 : hexL n = 3 := by unfold hexL; rw [if_neg h1, if_neg h2, if_pos h3]
        have e2 : hexK n = 4 := by unfold hexK; rw [if_pos (by omega)]
        rw [e1, e2, hexW_succ 3]
        have a1 : n / 16 ^ 3 % 16 = 0 := by rw [show (16 : Nat) ^ 3 = 4096 by decide]; omega
        rw [a1]; rfl
      · have e1 : hexL n = hexK n := by unfold hexL; rw [if_neg h1, if_neg h2, if_neg h3]
        have := hexK_bd n
        rw [e1, show 4 - hexK n = 0 by omega]; rfl

theorem ret_str {x y : ByteArray} (h : x.data.toList = y.data.toList) : Ending.returned (.string x) = .returned (.string y) := by
  rw [ByteArray.ext (Array.toList_inj.1 h)]

end Go.Proofs.YthlnfefpdmecaaaGreatDoor

/-
  strings.Join with one blank between.
-/
namespace Go.Proofs.YthlnfefpdmecaaaGreatDoor
open Go.RowKit

def joinL : List ByteArray → List UInt8
  | [] => []
  | [x] => x.data.toList
  | x :: y :: r => x.data.toList ++ 32 :: joinL (y :: r)
theorem joinL_snoc : ∀ (l : List ByteArray) (x : ByteArray), l ≠ [] → joinL (l ++ [x]) = joinL l ++ [32] ++ x.data.toList
  | [], _, h => absurd rfl h
  | [y], x, _ => by simp [joinL]
  | y :: z :: r, x, _ => by
    have ih := joinL_snoc (z :: r) x (by simp)
    simp only [List.cons_append, joinL] at ih ⊢
    rw [ih]; simp
theorem joinL_len : ∀ (l : List ByteArray), (∀ x ∈ l, x.size ≤ 1000) → (joinL l).length ≤ 1001 * l.length
  | [], _ => by simp [joinL]
  | [x], h => by have := h x (by simp); simp [joinL] at this ⊢; have h2 : x.data.size = x.size := rfl; omega
  | x :: y :: r, h => by
    have h1 := h x (by simp)
    have ih := joinL_len (y :: r) (fun z hz => h z (by simp [hz]))
    have h2 := size_data x
    rw [joinL, List.length_append, List.length_cons, h2]
    simp only [List.length_cons] at ih ⊢
    omega
theorem joinL_step {ss : List ByteArray} {k : Nat} {x : ByteArray} (h : ss[k + 1]? = some x) : joinL (ss.take (k + 1 + 1)) = joinL (ss.take (k + 1)) ++ [32] ++ x.data.toList := by
  rw [List.take_add_one (i := k + 1), h, Option.toList_some, joinL_snoc]
  intro e
  have h1 : (ss.take (k + 1)).length = 0 := by rw [e]; rfl
  have h2 := (List.getElem?_eq_some_iff.1 h).1
  rw [List.length_take] at h1
  omega

end Go.Proofs.YthlnfefpdmecaaaGreatDoor

/-
  runes.Print: the spelling of a set.
-/
namespace Go.Proofs.YthlnfefpdmecaaaGreatDoor
open Go.RowKit

theorem TabB.below {w w' : World} (h : TabB w) (hb : Below w.heap.size w w') : TabB w' := by unfold TabB at h ⊢; exact cell_keep h hb
theorem infoStr : (Tryz.prog.info? 9).map (fun i => (i.zero, i.size, i.bytes)) = some (some (.string ByteArray.empty), 1, 16) := by kernel_rfl
/-- A text's one cell. -/
def encStr (s : ByteArray) : List Value := [.string s]
theorem encStr_ok (l : List ByteArray) : ∀ y ∈ l.map encStr, y.length = 1 ∧ ∀ u ∈ y, u.oneCell' = true := by
  intro y hy; obtain ⟨s, _, rfl⟩ := List.mem_map.1 hy
  exact ⟨rfl, by simp [encStr, Value.oneCell']⟩
def itemS (x : Int × Int) : ByteArray := ⟨(itemT x).toArray⟩
theorem joinL_print : ∀ (l : List (Int × Int)), joinL (l.map itemS) = printL l
  | [] => rfl
  | [x] => by simp [joinL, printL, itemS]
  | x :: y :: r => by
    have ih := joinL_print (y :: r)
    simp only [List.map_cons, joinL, printL] at ih ⊢
    rw [ih]; simp [itemS]
theorem itemS_size (x : Int × Int) : (itemS x).size ≤ 17 := by
  rw [← size_data]; simpa [itemS] using itemT_len x
theorem itemT_one {x : Int × Int} (h : x.2 = x.1) : itemT x = spellP x.1 := by unfold itemT; rw [if_pos h, List.append_nil]
theorem itemT_two {x : Int × Int} (h : ¬ x.2 = x.1) : itemT x = spellP x.1 ++ 45 :: spellP x.2 := by unfold itemT; rw [if_neg h]

end Go.Proofs.YthlnfefpdmecaaaGreatDoor

/-
  props.(*Db).Text, walked.
-/
namespace Go.Proofs.YthlnfefpdmecaaaGreatDoor
open Go.RowKit Go.Maps

theorem textG_le (N : List (List UInt8)) (S : List (List (Int × Int))) (k : Nat) (hN : ∀ n ∈ N, n.length ≤ 32) (hk : N.length ≤ 64) (hS : lenS S ≤ 1114112) : (textG (N.take k) (S.take k)).length ≤ 30000000 := by
  have h1 := textG_len (N.take k) (S.take k)
  have h2 : lenS (S.take k) ≤ lenS S := by
    have h3 : lenS S = lenS (S.take k) + lenS (S.drop k) := by
      conv => lhs; rw [← List.take_append_drop k S]
      exact lenS_append _ _
    omega
  have h4 : ∀ (M : List (List UInt8)), (∀ n ∈ M, n.length ≤ 32) → lenS M ≤ 32 * M.length := by
    intro M hM
    induction M with
    | nil => simp [lenS]
    | cons a r ih => have := hM a (by simp); have := ih (fun n hn => hM n (by simp [hn])); simp only [lenS, List.length_cons]; omega
  have h5 := h4 (N.take k) (fun n hn => hN n (List.mem_of_mem_take hn))
  rw [List.length_take] at h1 h5
  omega

theorem itemT_ne (x : Int × Int) : itemT x ≠ [] := fun h => by
  unfold itemT at h
  have := (List.append_eq_nil_iff.1 h).1
  unfold spellP at this
  simp at this

end Go.Proofs.YthlnfefpdmecaaaGreatDoor

/-
  kerflaw04: num, live, walked.
-/
namespace Go.Proofs.YthlnfefpdmecaaaGreatDoor
open Go.RowKit Go.Maps
theorem small_of : ofC smallD ⟨#[101, 204, 129, 255]⟩ = [2, 1, 0] := by
  have h : runesP ⟨#[101, 204, 129, 255]⟩ = [(101, 0, 1), (769, 1, 3), (65533, 3, 4)] := by decide +kernel
  unfold ofC
  rw [h]
  obtain ⟨h1, h2, h3⟩ := small_get
  show [smallD.get 101, smallD.get 769, smallD.get 65533] = [2, 1, 0]
  rw [h1, h2, h3]

end Go.Proofs.YthlnfefpdmecaaaGreatDoor

/-
  kerfref04: blank, trim, cut, walked.
-/
namespace Go.Proofs.YthlnfefpdmecaaaGreatDoor
open Go.RowKit Go.Maps

theorem blk_true {c : UInt8} (h : (c.toNat : Int) = 32 ∨ (c.toNat : Int) = 9) : blkB c = true := by
  have h1 : c = 32 ↔ c.toNat = 32 := u8_eq (n := 32) (by omega)
  have h2 : c = 9 ↔ c.toNat = 9 := u8_eq (n := 9) (by omega)
  simp only [blkB, Bool.or_eq_true, beq_iff_eq, h1, h2]; omega
theorem blk_false {c : UInt8} (h : ¬ ((c.toNat : Int) = 32 ∨ (c.toNat : Int) = 9)) : blkB c = false := by
  cases hb : blkB c with
  | false => rfl
  | true =>
    have h1 : c = 32 ↔ c.toNat = 32 := u8_eq (n := 32) (by omega)
    have h2 : c = 9 ↔ c.toNat = 9 := u8_eq (n := 9) (by omega)
    refine absurd ?_ h
    simp only [blkB, Bool.or_eq_true, beq_iff_eq, h1, h2] at hb; omega
theorem vblank_any (c : UInt8) (w : World) : Calls Tryz.prog 190 #[.int .u8 (c.toNat : Int)] w fun e w' => e = .returned (.bool (blkB c)) ∧ w = w' := by
  have HT := Lib.hid (@blk_true c)
  have HF := Lib.hid (@blk_false c)
  generalize (c.toNat : Int) = z at HT HF
  rcases (by omega : z = 32 ∨ z = 9 ∨ (z ≠ 32 ∧ z ≠ 9)) with h | h | ⟨h, h'⟩
  · have HV := Lib.hid (HT.out (.inl h))
    subst h
    go_enter Tryz.func190, Tryz.ntmps190
    go_wp2
    go_ret
    exact ⟨by rw [HV.out]; rfl, rfl⟩
  · have HV := Lib.hid (HT.out (.inr h))
    subst h
    go_enter Tryz.func190, Tryz.ntmps190
    go_wp2
    go_ret
    exact ⟨by rw [HV.out]; rfl, rfl⟩
  · have HV := Lib.hid (HF.out (by omega))
    have h1 : (z == 32) = false := beq_eq_false_iff_ne.2 h
    have h2 : (z == 9) = false := beq_eq_false_iff_ne.2 h'
    go_enter Tryz.func190, Tryz.ntmps190
    go_wp2
    go_ret
    exact ⟨by rw [HV.out]; rfl, rfl⟩

def strSize : Value → Nat
  | .string s => s.size
  | _ => 0
set_option maxRecDepth 100000 in
set_option maxHeartbeats 2000000 in
theorem vtrim_any (L : List UInt8) (w : World) (hL : L.length ≤ 1000000) : Calls Tryz.prog 150 #[.string (bytesOf L)] w fun e w' => e = .returned (.string (bytesOf (trimL L))) ∧ w = w' := by
  have HTE := Lib.hid (trimL_eq L)
  go_enter Tryz.func150, Tryz.ntmps150
  go_wp2
  go_loopw [0] (fun v wr => ∃ l : List UInt8, v = .string (bytesOf l) ∧ l.length ≤ L.length ∧ Hid (l.dropWhile blkB = L.dropWhile blkB) ∧ wr = w) (fun v _ => strSize v)
  case atStart => exact ⟨L, rfl, by omega, rfl, rfl⟩
  case round =>
    obtain ⟨l, rfl, hl, HD, rfl⟩ := hrel
    have hsz : (bytesOf l).size = l.length := bytesOf_size l
    by_cases hb : ∃ c r, l = c :: r ∧ blkB c = true
    · obtain ⟨c, r, rfl, hc⟩ := hb
      have h0 : 0 < (bytesOf (c :: r)).size := by rw [hsz]; simp
      have hix := index_at (bytesOf (c :: r)) 0 0 rfl h0
      have hg : (bytesOf (c :: r))[0]'h0 = c := by have := get_list h0; rw [bytesOf_list] at this; simpa using this.symm
      rw [hg] at hix
      have hgi : (((bytesOf (c :: r))[0]'h0).toNat : Int) = (c.toNat : Int) := by rw [hg]
      have HX := Lib.hid (ext_bytes (c :: r) 1)
      rw [hsz] at HX
      have hl2 : (r.length : Int) + 1 ≤ 1000000 := by simp at hl; omega
      clear hg
      go_wp2_with (go_at_call 190; refine (vblank_any c _).mono ?_; rw [hc]; rintro e w' ⟨rfl, rfl⟩)
      go_roundw
      case rel => exact ⟨r, by first | exact congrArg Value.string HX.out | (rw [← ext_bytes (c :: r) 1]; rfl), by simp at hl; omega, Lib.hid (by rw [← HD.out, drop_blank hc]), by first | rfl | trivial⟩
      case measure => simp only [strSize, ByteArray.size_extract, bytesOf_size, List.length_cons]; omega
    · have HLD : Hid (l = L.dropWhile blkB) := Lib.hid (by
        rw [← HD.out]
        cases l with
        | nil => rfl
        | cons c r =>
          have : blkB c = false := by
            cases hq : blkB c with
            | false => rfl
            | true => exact absurd ⟨c, r, rfl, hq⟩ hb
          exact (dropWhile_stop this).symm)
      have HTR : Hid (trimL L = trimR l) := Lib.hid (by rw [HTE.out, HLD.out])
      have hstop : l = [] ∨ ∃ c r, l = c :: r ∧ blkB c = false := by
        cases l with
        | nil => exact .inl rfl
        | cons c r =>
          refine .inr ⟨c, r, rfl, ?_⟩
          cases hq : blkB c with
          | false => rfl
          | true => exact absurd ⟨c, r, rfl, hq⟩ hb
      clear hb HD HLD
      rcases hstop with rfl | ⟨c, r, rfl, hc⟩
      · have HT0 : Hid (trimL L = []) := Lib.hid (by rw [HTR.out]; rfl)
        have hz0 : (bytesOf []).size = 0 := rfl
        go_wp2_with fail
        go_loopw [0] (fun v wq => v = .string (bytesOf []) ∧ wq = wr) (fun _ _ => 0)
        case atStart => exact ⟨rfl, rfl⟩
        case round =>
          obtain ⟨rfl, rfl⟩ := hrel
          go_wp2
          go_ret
          exact ⟨by rw [HT0.out]; rfl, rfl⟩
      · have h0 : 0 < (bytesOf (c :: r)).size := by rw [hsz]; simp
        have hix := index_at (bytesOf (c :: r)) 0 0 rfl h0
        have hg : (bytesOf (c :: r))[0]'h0 = c := by have := get_list h0; rw [bytesOf_list] at this; simpa using this.symm
        rw [hg] at hix
        have hgi : (((bytesOf (c :: r))[0]'h0).toNat : Int) = (c.toNat : Int) := by rw [hg]
        clear hg
        go_wp2_with (go_at_call 190; refine (vblank_any c _).mono ?_; rw [hc]; rintro e w' ⟨rfl, rfl⟩)
        go_loopw [0] (fun v wq => ∃ l : List UInt8, v = .string (bytesOf l) ∧ l.length ≤ L.length ∧ Hid (trimR l = trimL L) ∧ wq = wr) (fun v _ => strSize v)
        case atStart => exact ⟨c :: r, rfl, hl, Lib.hid HTR.out.symm, rfl⟩
        case round =>
          clear hix hgi h0
          obtain ⟨l, rfl, hl2, HD, rfl⟩ := hrel
          have hsz2 : (bytesOf l).size = l.length := bytesOf_size l
          rcases List.eq_nil_or_concat l with rfl | ⟨o, y, rfl⟩
          · have HT0 : Hid (trimL L = []) := Lib.hid (by rw [← HD.out]; rfl)
            have hz0 : (bytesOf []).size = 0 := rfl
            go_wp2
            go_ret
            exact ⟨by rw [HT0.out]; rfl, rfl⟩
          · rw [List.concat_eq_append] at *
            have hlast : (o ++ [y]).getLast? = some y := by simp
            have hol : (o ++ [y]).length = o.length + 1 := by simp
            rw [hol] at hsz2 hl2
            have hp : o.length < (bytesOf (o ++ [y])).size := by omega
            have hix := index_at (bytesOf (o ++ [y])) ((o.length : Int) + 1 - 1) o.length (by omega) hp
            have hix2 := index_at (bytesOf (o ++ [y])) (o.length : Int) o.length rfl hp
            have hg : (bytesOf (o ++ [y]))[o.length]'hp = y := by have := get_list hp; rw [bytesOf_list] at this; simpa using this.symm
            rw [hg] at hix hix2
            have hgi : (((bytesOf (o ++ [y]))[o.length]'hp).toNat : Int) = (y.toNat : Int) := by rw [hg]
            clear hg
            cases hy : blkB y with
            | true =>
              have HX : Hid ((bytesOf (o ++ [y])).extract 0 o.length = bytesOf o) := Lib.hid (by rw [ext_bytes0]; simp)
              have HD' : Hid (trimR o = trimL L) := Lib.hid (by rw [← HD.out, (trim_last hlast).1 hy, hol, Nat.add_sub_cancel]; simp)
              go_wp2_with (go_at_call 190; refine (vblank_any y _).mono ?_; rw [hy]; rintro e w' ⟨rfl, rfl⟩)
              go_roundw
              case rel => exact ⟨o, congrArg Value.string HX.out, by omega, HD', by first | rfl | trivial⟩
              case measure => simp only [strSize, ByteArray.size_extract, bytesOf_size, List.length_append, List.length_singleton]; omega
            | false =>
              have HD' : Hid (trimL L = o ++ [y]) := Lib.hid (by rw [← HD.out, (trim_last hlast).2 hy])
              go_wp2_with (go_at_call 190; refine (vblank_any y _).mono ?_; rw [hy]; rintro e w' ⟨rfl, rfl⟩)
              go_ret
              exact ⟨by rw [HD'.out]; rfl, rfl⟩
end Go.Proofs.YthlnfefpdmecaaaGreatDoor

/-
  kerflaw04: texts, ints, ranged, walked (two lists that are the same).
-/
namespace Go.Proofs.YthlnfefpdmecaaaGreatDoor
open Go.RowKit Go.Maps

theorem Rd.atS {w : World} {A : Option Addr} {l : List (List UInt8)} {k : Nat} {x : List UInt8} (h : Rd w 1 A (l.map encNm)) (hk : l[k]? = some x) : ∃ b off, A = some ⟨b, off, none⟩ ∧ w.cell? ⟨b, off + k, none⟩ = some (.string (bytesOf x)) := by
  obtain ⟨b, off, rfl, hc⟩ := h (by intro e; cases l with | nil => simp at hk | cons _ _ => simp at e)
  have h0 := hc k 0 (encNm x) (.string (bytesOf x)) (by simp [hk]) rfl
  exact ⟨b, off, rfl, by simpa using h0⟩
theorem newP_code {t : List UInt8} {x : Int × Nat} (h : newP t = .error x) : 1 ≤ x.1 := by
  unfold newP at h
  split at h
  · injection h with h; subst h; decide
  · have key : ∀ (L : List (List UInt8)) (d : DbP) (i : Nat), linesGo d L i = .error x → 1 ≤ x.1 := by
      intro L
      induction L with
      | nil => intro d i h; cases h
      | cons a r ih =>
        intro d i h
        unfold linesGo at h
        split at h
        · rename_i e he
          injection h with h; subst h
          simp only
          unfold stepL at he
          split at he
          · cases he
          · injection he with he; omega
          · have := addL_err he; omega
        · exact ih _ _ h
    exact key _ _ _ h
end Go.Proofs.YthlnfefpdmecaaaGreatDoor

/-
  kerfref04: cut, Class, meet, walked.
-/
namespace Go.Proofs.YthlnfefpdmecaaaGreatDoor
open Go.RowKit Go.Maps

theorem ret_pair {a b c d : Value} (h1 : a = c) (h2 : b = d) : Ending.returned (.tuple #[a, b]) = .returned (.tuple #[c, d]) := by rw [h1, h2]
set_option maxRecDepth 100000 in
set_option maxHeartbeats 2000000 in
theorem vcut_any (L : List UInt8) (w : World) (hL : L.length ≤ 1000000) :
    Calls Tryz.prog 149 #[.string (bytesOf L)] w fun e w' => e = .returned (.tuple #[.string (bytesOf (L.take (hashP L))), .int .i64 (fv (findP 59 (L.take (hashP L))))]) ∧ Below w.heap.size w w' := by
  have HIS := Lib.hid (cutD_is L)
  have hsz : (bytesOf L).size = L.length := bytesOf_size L
  go_enter Tryz.func149, Tryz.ntmps149
  go_wp2
  go_loopw [4, 5] (fun a v wr => ∃ (semi : Option Nat) (i : Nat), a = .int .i64 (fv semi) ∧ v = .int .i64 i ∧ i ≤ L.length ∧ Hid (CutAt L i semi) ∧ Below w.heap.size w wr) (fun _ v _ => L.length - (intOf v).toNat)
  case atStart => exact ⟨none, 0, rfl, rfl, by omega, cutAt_first L, Below.refl _ _⟩
  case round =>
    obtain ⟨semi, i, rfl, rfl, hi, HC, hb⟩ := hrel
    by_cases hlt : i < L.length
    · have HQ := Lib.hid (sQuoted_any (bytesOf L) i wr (by omega) (by omega))
      have hqq := quoted_qt (bytesOf L) i (by omega)
      rw [bytesOf_list] at hqq
      have hp : i < (bytesOf L).size := by omega
      have hix := index_at (bytesOf L) i i rfl hp
      obtain ⟨x, hx⟩ : ∃ x, (bytesOf L)[i]'hp = x := ⟨_, rfl⟩
      have Hx : Hid (L[i]? = some x) := Lib.hid (by have := get_list hp; rw [bytesOf_list, hx] at this; exact this)
      have hgi : (((bytesOf L)[i]'hp).toNat : Int) = (x.toNat : Int) := by rw [hx]
      rw [hx] at hix
      clear hx
      cases hq : qtL (L.drop i) with
      | some k =>
        rw [hq] at hqq
        obtain ⟨q1, q2⟩ := hqq
        have HC' := Lib.hid (cutAt_qt HC.out hq)
        have hik : i + k ≤ L.length := HC'.out.1
        generalize quotedP (bytesOf L) i = Q at HQ q1 q2
        obtain ⟨r, wd, ok⟩ := Q
        simp only at q1 q2
        subst q1
        have hk3 := (qtL_some hq).1
        clear hq
        go_wp2_with (go_at_call 189; refine HQ.out.mono ?_; rintro e w2 ⟨rfl, hb2⟩)
        go_roundw
        case rel => exact ⟨semi, i + k, rfl, by go_num, hik, HC', below_step hb hb2 hb.size⟩
        case measure => simp [intOf]; omega
      | none =>
        rw [hq] at hqq
        generalize quotedP (bytesOf L) i = Q at HQ hqq
        obtain ⟨r, wd, ok⟩ := Q
        simp only at hqq
        subst hqq
        have h35 : x = 35 ↔ (x.toNat : Int) = 35 := by have h1 : x = 35 ↔ x.toNat = 35 := u8_eq (n := 35) (by omega); rw [h1]; omega
        have h59 : x = 59 ↔ (x.toNat : Int) = 59 := by have h1 : x = 59 ↔ x.toNat = 59 := u8_eq (n := 59) (by omega); rw [h1]; omega
        have HH := Lib.hid (fun h => cutAt_hash HC.out Hx.out hq (h35.2 h))
        have HS := Lib.hid (fun h hs => cutAt_semi HC.out Hx.out hq (h59.2 h) hs)
        have HGo := Lib.hid (fun (h : ¬ (x.toNat : Int) = 35) (hs : ¬ ((x.toNat : Int) = 59 ∧ semi = none)) => cutAt_go HC.out Hx.out hq (fun k => h (h35.1 k)) (fun k => hs ⟨h59.1 k.1, k.2⟩))
        generalize (x.toNat : Int) = z at hix hgi HH HS HGo
        clear h35 h59 hq
        rcases (by omega : z = 35 ∨ z = 59 ∨ (z ≠ 35 ∧ z ≠ 59)) with hz | hz | ⟨hz, hz'⟩
        · have HE := HH.out hz
          rw [HIS.out] at HE
          injection HE with HE1 HE2
          have HE1 := Lib.hid HE1
          have HE2 := Lib.hid HE2
          have hzz : (z == 35) = true := by rw [hz]; rfl
          clear hz HH HS HGo
          go_wp2_with (go_at_call 189; refine HQ.out.mono ?_; rintro e w2 ⟨rfl, hb2⟩)
          go_ret2
          have h1 := ext_bytes0 L i
          rw [← HE1.out] at h1
          exact ⟨ret_pair (congrArg Value.string (by first | exact h1 | (rw [HE1.out] at h1 ⊢; exact h1) | rfl)) (congrArg (Value.int .i64) (by rw [HE2.out])), below_step hb hb2 hb.size⟩
        · have hzz : (z == 35) = false := by rw [hz]; rfl
          have hzy : (z == 59) = true := by rw [hz]; rfl
          cases semi with
          | none =>
            have HC' := Lib.hid (HS.out hz rfl)
            have hfn : decide (fv none < 0) = true := rfl
            clear hz HH HS HGo
            go_wp2_with (go_at_call 189; refine HQ.out.mono ?_; rintro e w2 ⟨rfl, hb2⟩)
            go_roundw
            case rel => exact ⟨some i, i + 1, rfl, by go_num, by omega, HC', below_step hb hb2 hb.size⟩
            case measure => simp [intOf]; omega
          | some k =>
            have HC' := Lib.hid (HGo.out (by omega) (fun h => by cases h.2))
            have hfn : decide (fv (some k) < 0) = false := decide_eq_false (by simp only [fv]; omega)
            clear hz HH HS HGo
            go_wp2_with (go_at_call 189; refine HQ.out.mono ?_; rintro e w2 ⟨rfl, hb2⟩)
            go_roundw
            case rel => exact ⟨some k, i + 1, rfl, by go_num, by omega, HC', below_step hb hb2 hb.size⟩
            case measure => simp [intOf]; omega
        · have hzz : (z == 35) = false := beq_eq_false_iff_ne.2 hz
          have hzy : (z == 59) = false := beq_eq_false_iff_ne.2 hz'
          have HC' := Lib.hid (HGo.out hz (fun h => hz' h.1))
          clear hz hz' HH HS HGo
          go_wp2_with (go_at_call 189; refine HQ.out.mono ?_; rintro e w2 ⟨rfl, hb2⟩)
          go_roundw
          case rel => exact ⟨semi, i + 1, rfl, by go_num, by omega, HC', below_step hb hb2 hb.size⟩
          case measure => simp [intOf]; omega
    · have HE := cutAt_end HC.out hlt
      rw [HIS.out] at HE
      injection HE with HE1 HE2
      have HE1 := Lib.hid HE1
      have HE2 := Lib.hid HE2
      go_wp2
      go_ret2
      exact ⟨ret_pair (congrArg Value.string (by rw [HE1.out, List.take_length]; try rfl)) (by rw [HE2.out]; try rfl), hb⟩
end Go.Proofs.YthlnfefpdmecaaaGreatDoor

/-
  kerfref04: Class, meet, walked.
-/
namespace Go.Proofs.YthlnfefpdmecaaaGreatDoor
open Go.RowKit Go.Maps

/-- The document's database, its parts. -/
structure RfX (w : World) (base p x : Nat) (An : Option Addr) (nn cn : Nat) (As : Option Addr) (ns cs : Nat) (xs : List (Option Addr × Nat × Nat)) (N : List (List UInt8)) (S : List (List (Int × Int))) : Prop where
  blk : Blk w p 84 #[.slice An nn cn, .slice As ns cs]
  pb : base ≤ p
  hn : Own w base 9 1 An nn cn (N.map encNm)
  hs : Own w base 111 1 As ns cs (xs.map encSl)
  hx : Sets w base xs S
  xp : x ≠ p
  xn : ∀ a, An = some a → a.block ≠ x
  xs_ : ∀ a, As = some a → a.block ≠ x
structure RfB (w : World) (base p x : Nat) (N : List (List UInt8)) (S : List (List (Int × Int))) : Prop where
  ex : ∃ (An : Option Addr) (nn cn : Nat) (As : Option Addr) (ns cs : Nat) (xs : List (Option Addr × Nat × Nat)), RfX w base p x An nn cn As ns cs xs N S
section
variable {w w' : World} {base p x : Nat} {An : Option Addr} {nn cn : Nat} {As : Option Addr} {ns cs : Nat} {xs : List (Option Addr × Nat × Nat)} {N : List (List UInt8)} {S : List (List (Int × Int))}
theorem RfX.below (h : RfX w base p x An nn cn As ns cs xs N S) (hb : Below w.heap.size w w') : RfX w' base p x An nn cn As ns cs xs N S := ⟨h.blk.below hb, h.pb, h.hn.below hb, h.hs.below hb, h.hx.below hb, h.xp, h.xn, h.xs_⟩
theorem RfB.below (h : RfB w base p x N S) (hb : Below w.heap.size w w') : RfB w' base p x N S := by
  obtain ⟨a1, a2, a3, a4, a5, a6, a7, h⟩ := h.ex
  exact ⟨a1, a2, a3, a4, a5, a6, a7, h.below hb⟩
theorem RfX.lenN (h : RfX w base p x An nn cn As ns cs xs N S) : N.length = nn := by simpa using h.hn.len
theorem RfX.lenS (h : RfX w base p x An nn cn As ns cs xs N S) : xs.length = ns ∧ S.length = ns := by
  have := h.hs.len; rw [List.length_map] at this
  exact ⟨this, by rw [← h.hx.len]; exact this⟩
theorem types_rf : (9 : TypeId) ≠ 111 ∧ (9 : TypeId) ≠ 84 ∧ (111 : TypeId) ≠ 84 ∧ (9 : TypeId) ≠ 146 ∧ (111 : TypeId) ≠ 146 ∧ (84 : TypeId) ≠ 146 := by decide
/-- A name more. -/
theorem RfX.named {w3 : World} {o : Obj} {n : List UInt8} {A3 : Option Addr} {c3 : Nat} (h : RfX w base p x An nn cn As ns cs xs N S) (ho3 : Own w3 base 9 1 A3 (nn + 1) c3 ((N ++ [n]).map encNm))
    (hg3 : (w.alloc o).grownBy w3 (An.map (·.block))) (hA3 : A3 = An ∨ A3 = some ⟨(w.alloc o).heap.size, 0, none⟩) (hx : x < w.heap.size) (hB : base ≤ w.heap.size) :
    Blk w3 p 84 #[.slice An nn cn, .slice As ns cs] ∧ RfX (w3.setCell ⟨p, 0, none⟩ (.slice A3 (nn + 1) c3)) base p x A3 (nn + 1) c3 As ns cs xs (N ++ [n]) S ∧
      KX base x w (w3.setCell ⟨p, 0, none⟩ (.slice A3 (nn + 1) c3)) ∧ KeepR base w (w3.setCell ⟨p, 0, none⟩ (.slice A3 (nn + 1) c3)) := by
  obtain ⟨t1, t2, t3, t4, t5, t6⟩ := types_rf
  have hg := grown_alloc hg3
  have b3 : Blk w3 p 84 #[.slice An nn cn, .slice As ns cs] := h.blk.grown hg (fun e => by cases An with | none => cases e | some a => simp at e; exact h.hn.off h.blk t2 a rfl e.symm)
  have s3 : Own w3 base 111 1 As ns cs (xs.map encSl) := h.hs.grown hg (fun a ha e => by cases An with | none => cases e | some b => simp at e; exact h.hn.apart h.hs t1 b a rfl ha e.symm)
  have x3 : Sets w3 base xs S := h.hx.grown hg (fun g q e => own_not_R h.hn t4 g q e)
  have hxA3 : ∀ a, A3 = some a → a.block ≠ x := fun a ha => by
    rcases hA3 with e | e
    · exact h.xn a (by rw [← e]; exact ha)
    · rw [e] at ha; injection ha with ha; subst ha; simp; omega
  refine ⟨b3, ⟨?_, h.pb, ?_, ?_, ?_, h.xp, hxA3, h.xs_⟩, ?_, ?_⟩
  · have := b3.set_ 0 (.slice A3 (nn + 1) c3)
    simpa using this
  · exact ho3.setCell (fun a ha => ho3.off b3 t2 a ha) _
  · exact s3.setCell (fun a ha => s3.off b3 t3 a ha) _
  · exact x3.setCell (blk_not_R b3 t6) _
  · refine (KX.grown hg hB (fun k hk => ?_)).trans (KX.setCell w3 h.pb (fun e => h.xp e.symm) _)
    cases An with
    | none => cases hk
    | some a => simp at hk; subst hk; exact ⟨(h.hn.lt a rfl).1, h.xn a rfl⟩
  · exact (KeepR.grown hg (fun g q e => own_not_R h.hn t4 g q e)).trans (KeepR.setCell (blk_not_R b3 t6) _)
/-- A set more: none yet. -/
theorem RfX.moreSet {w3 : World} {o : Obj} {A3 : Option Addr} {c3 : Nat} (h : RfX w base p x An nn cn As ns cs xs N S) (ho3 : Own w3 base 111 1 A3 (ns + 1) c3 ((xs ++ [(none, 0, 0)]).map encSl))
    (hg3 : (w.alloc o).grownBy w3 (As.map (·.block))) (hA3 : A3 = As ∨ A3 = some ⟨(w.alloc o).heap.size, 0, none⟩) (hx : x < w.heap.size) (hB : base ≤ w.heap.size) :
    Blk w3 p 84 #[.slice An nn cn, .slice As ns cs] ∧ RfX (w3.setCell ⟨p, 1, none⟩ (.slice A3 (ns + 1) c3)) base p x An nn cn A3 (ns + 1) c3 (xs ++ [(none, 0, 0)]) N (S ++ [[]]) ∧
      KX base x w (w3.setCell ⟨p, 1, none⟩ (.slice A3 (ns + 1) c3)) ∧ KeepR base w (w3.setCell ⟨p, 1, none⟩ (.slice A3 (ns + 1) c3)) := by
  obtain ⟨t1, t2, t3, t4, t5, t6⟩ := types_rf
  have hg := grown_alloc hg3
  have b3 : Blk w3 p 84 #[.slice An nn cn, .slice As ns cs] := h.blk.grown hg (fun e => by cases As with | none => cases e | some a => simp at e; exact h.hs.off h.blk t3 a rfl e.symm)
  have n3 : Own w3 base 9 1 An nn cn (N.map encNm) := h.hn.grown hg (fun a ha e => by cases As with | none => cases e | some b => simp at e; exact h.hn.apart h.hs t1 a b ha rfl e)
  have x3 : Sets w3 base xs S := h.hx.grown hg (fun g q e => own_not_R h.hs t5 g q e)
  have hxA3 : ∀ a, A3 = some a → a.block ≠ x := fun a ha => by
    rcases hA3 with e | e
    · exact h.xs_ a (by rw [← e]; exact ha)
    · rw [e] at ha; injection ha with ha; subst ha; simp; omega
  refine ⟨b3, ⟨?_, h.pb, ?_, ?_, ?_, h.xp, h.xn, hxA3⟩, ?_, ?_⟩
  · have := b3.set_ 1 (.slice A3 (ns + 1) c3)
    simpa using this
  · exact n3.setCell (fun a ha => n3.off b3 t2 a ha) _
  · exact ho3.setCell (fun a ha => ho3.off b3 t3 a ha) _
  · exact (x3.setCell (blk_not_R b3 t6) _).snoc (Own.nil_ _ _ _ _)
  · refine (KX.grown hg hB (fun k hk => ?_)).trans (KX.setCell w3 h.pb (fun e => h.xp e.symm) _)
    cases As with
    | none => cases hk
    | some a => simp at hk; subst hk; exact ⟨(h.hs.lt a rfl).1, h.xs_ a rfl⟩
  · exact (KeepR.grown hg (fun g q e => own_not_R h.hs t5 g q e)).trans (KeepR.setCell (blk_not_R b3 t6) _)
/-- A set stored. -/
theorem RfX.storeSet {g k b' : Nat} {y : Option Addr × Nat × Nat} {l : List (Int × Int)} (h : RfX w base p x An nn cn (some ⟨g, 0, none⟩) ns cs xs N S) (hk : k < ns) (ho : Own w b' 146 2 y.1 y.2.1 y.2.2 (l.map encR)) (hb : base ≤ b') :
    RfX (w.setCell ⟨g, k, none⟩ (.slice y.1 y.2.1 y.2.2)) base p x An nn cn (some ⟨g, 0, none⟩) ns cs (xs.set k y) N (S.set k l) ∧ KX base x w (w.setCell ⟨g, k, none⟩ (.slice y.1 y.2.1 y.2.2)) := by
  obtain ⟨t1, t2, t3, t4, t5, t6⟩ := types_rf
  have hgp : g ≠ p := h.hs.off h.blk t3 _ rfl
  refine ⟨⟨h.blk.far (p := ⟨g, k, none⟩) (Ne.symm hgp) _, h.pb, ?_, ?_, ?_, h.xp, h.xn, h.xs_⟩, KX.setCell w (q := ⟨g, k, none⟩) (h.hs.lt _ rfl).1 (h.xs_ ⟨g, 0, none⟩ rfl) _⟩
  · exact h.hn.setCell (p := ⟨g, k, none⟩) (fun a ha e => h.hn.apart h.hs t1 a ⟨g, 0, none⟩ ha rfl e) _
  · exact h.hs.storedSl (by rw [h.lenS.1]; exact hk) y
  · refine Sets.set_ (h.hx.setCell (q := ⟨g, k, none⟩) (fun r => own_not_R h.hs t5 g r rfl) _) ?_
    exact (ho.setCell (p := ⟨g, k, none⟩) (fun a ha e => ho.apart h.hs (Ne.symm t5) a ⟨g, 0, none⟩ ha rfl e) _).more hb
end

theorem bytes_inj {a b : List UInt8} : bytesOf a = bytesOf b ↔ a = b := ⟨fun h => by rw [← bytesOf_list a, ← bytesOf_list b, h], fun h => by rw [h]⟩
/-- Behind how many names a name stands. -/
theorem idx_step {N : List (List UInt8)} {n y : List UInt8} {i : Nat} (h : n ∉ N.take i) (hy : N[i]? = some y) : (y = n → N.idxOf? n = some i) ∧ (y ≠ n → n ∉ N.take (i + 1)) := by
  constructor
  · rintro rfl
    rw [List.idxOf?, List.findIdx?_eq_some_iff_getElem]
    obtain ⟨hlt, e⟩ := List.getElem?_eq_some_iff.1 hy
    refine ⟨hlt, by simp [e], fun j hj => ?_⟩
    simp only [Bool.not_eq_true, beq_eq_false_iff_ne]
    intro hjy
    exact h (List.mem_take_iff_getElem.2 ⟨j, by omega, by simpa using hjy⟩)
  · intro hne hm
    rw [List.take_add_one, hy] at hm
    simp at hm
    rcases hm with hm | hm
    · exact h hm
    · exact hne hm.symm
theorem idx_none {N : List (List UInt8)} {n : List UInt8} (h : n ∉ N) : N.idxOf? n = none := by
  rw [List.idxOf?, List.findIdx?_eq_none_iff]
  intro x hx
  simp only [beq_eq_false_iff_ne]
  rintro rfl; exact h hx
set_option maxRecDepth 100000 in
set_option maxHeartbeats 1000000 in
theorem vClass_any (base p x : Nat) (N : List (List UInt8)) (S : List (List (Int × Int))) (n : List UInt8) (w : World) (h : RfB w base p x N S) (hN : N.length ≤ 1000000) :
    Calls Tryz.prog 118 #[.pointer (some ⟨p, 0, none⟩), .string (bytesOf n)] w fun e w' => e = .returned (.tuple #[.int .i64 (((N.idxOf? n).getD 0 : Nat) : Int), .bool (N.idxOf? n).isSome]) ∧ w = w' := by
  obtain ⟨An, nn, cn, As, ns, cs, xs, hX⟩ := h.ex
  have hl := hX.lenN
  have Hl := Lib.hid hl
  have hrd := hX.hn.rd (by omega)
  have c0 := hX.blk.cell 0
  simp only [List.getElem?_toArray, List.getElem?_cons_zero] at c0
  have hnn : nn ≤ 1000000 := by omega
  clear hl h
  go_enter Tryz.func118, Tryz.ntmps118
  go_wp2
  go_loopw [6] (fun v wr => ∃ i : Nat, v = .int .i64 i ∧ i ≤ nn ∧ Hid (n ∉ N.take i) ∧ wr = w) (fun v _ => nn - (intOf v).toNat)
  case atStart => exact ⟨0, rfl, by omega, by simp [Hid], rfl⟩
  case round =>
    obtain ⟨i, rfl, hi, HN, rfl⟩ := hrel
    by_cases hlt : i < nn
    · obtain ⟨y, Hy⟩ : ∃ y, Hid (N[i]? = some y) := ⟨_, Lib.hid (List.getElem?_eq_getElem (show i < N.length by have := Hl.out; omega))⟩
      obtain ⟨b, off, rfl, hc⟩ := hrd.atS Hy.out
      have HI := Lib.hid (idx_step HN.out Hy.out)
      by_cases hyn : y = n
      · have HE := Lib.hid (HI.out.1 hyn)
        subst hyn
        go_wp2
        go_ret2
        exact ⟨by rw [HE.out]; rfl, rfl⟩
      · have HE := Lib.hid (HI.out.2 hyn)
        have e1 : ((bytesOf y).toList == (bytesOf n).toList) = false := by rw [ByteArray.toList_eq, ByteArray.toList_eq, bytesOf_list, bytesOf_list]; exact beq_eq_false_iff_ne.2 hyn
        have e3 : decide (bytesOf y = bytesOf n) = false := decide_eq_false (fun k => hyn (bytes_inj.1 k))
        clear hyn
        go_wp2
        go_roundw
        case rel => exact ⟨i + 1, by go_num, by omega, HE, by first | rfl | trivial⟩
        case measure => simp [intOf]; omega
    · have HE := Lib.hid (idx_none (N := N) (n := n) (by have := HN.out; rwa [List.take_of_length_le (by have := Hl.out; omega)] at this))
      go_wp2
      go_ret2
      exact ⟨by rw [HE.out]; rfl, rfl⟩
end Go.Proofs.YthlnfefpdmecaaaGreatDoor

/-
  kerfref04: meet, walked.
-/
namespace Go.Proofs.YthlnfefpdmecaaaGreatDoor
open Go.RowKit Go.Maps

def hitR (x y : Int × Int) : Bool := decide (x.1 ≤ y.2) && decide (y.1 ≤ x.2)
theorem meetB_any (a b : List (Int × Int)) : meetB a b = a.any fun x => b.any fun y => hitR x y := rfl
theorem any_next {α : Type} {l : List α} {i : Nat} {x : α} {f : α → Bool} (h : (l.take i).any f = false) (hx : l[i]? = some x) (hf : f x = false) : (l.take (i + 1)).any f = false := by
  rw [List.take_add_one, hx]; simp [List.any_append, h, hf]
theorem any_hit {α : Type} {l : List α} {i : Nat} {x : α} {f : α → Bool} (hx : l[i]? = some x) (hf : f x = true) : l.any f = true := List.any_eq_true.2 ⟨x, List.mem_of_getElem? hx, hf⟩
theorem any_all {α : Type} {l : List α} {i : Nat} {f : α → Bool} (h : (l.take i).any f = false) (hi : ¬ i < l.length) : l.any f = false := by rwa [List.take_of_length_le (by omega)] at h
set_option maxRecDepth 100000 in
set_option maxHeartbeats 2000000 in
theorem vmeet_any (A B : Option Addr) (n c m e : Nat) (l q : List (Int × Int)) (w : World) (hA : Rd w 2 A (l.map encR)) (hB : Rd w 2 B (q.map encR)) (hl : l.length = n) (hq : q.length = m) (hn : n ≤ 4000000) (hm : m ≤ 4000000) :
    Calls Tryz.prog 154 #[.slice A n c, .slice B m e] w fun e w' => e = .returned (.bool (meetB l q)) ∧ ∃ k, w' = w.drewN k := by
  have Hl := Lib.hid hl
  have Hq := Lib.hid hq
  have HMB := Lib.hid (meetB_any l q)
  go_enter Tryz.func154, Tryz.ntmps154
  go_wp2
  go_loopw [5] (fun v wr => ∃ i k : Nat, v = .int .i64 i ∧ i ≤ n ∧ Hid ((l.take i).any (fun x => q.any fun y => hitR x y) = false) ∧ wr = w.drewN k) (fun v _ => n - (intOf v).toNat)
  case atStart => exact ⟨0, 0, rfl, by omega, by simp [Hid], rfl⟩
  case round =>
    obtain ⟨i, k, rfl, hi, HI, rfl⟩ := hrel
    by_cases hlt : i < n
    · obtain ⟨bA, oA, x1, x2, rfl, Hx, hx1, hx2⟩ := hA.atR (k := i) (by have := Hl.out; omega)
      have hdi : decide (i < n) = true := decide_eq_true hlt
      go_wp2_with fail
      go_loopw [6] (fun v wr => ∃ j k2 : Nat, v = .int .i64 j ∧ j ≤ m ∧ Hid ((q.take j).any (fun y => hitR (x1, x2) y) = false) ∧ wr = w.drewN k2) (fun v _ => m - (intOf v).toNat)
      case atStart => exact ⟨0, k, rfl, by omega, by simp [Hid], rfl⟩
      case round =>
        obtain ⟨j, k2, rfl, hj, HJ, rfl⟩ := hrel
        by_cases hltj : j < m
        · obtain ⟨bB, oB, y1, y2, rfl, Hy, hy1, hy2⟩ := hB.atR (k := j) (by have := Hq.out; omega)
          rcases (by omega : ¬ x1 ≤ y2 ∨ (x1 ≤ y2 ∧ ¬ y1 ≤ x2) ∨ (x1 ≤ y2 ∧ y1 ≤ x2)) with h1 | ⟨h1, h2⟩ | ⟨h1, h2⟩
          · have HJ' := Lib.hid (any_next HJ.out Hy.out (show hitR (x1, x2) (y1, y2) = false by simp [hitR, h1]))
            have hd1 : decide (x1 ≤ y2) = false := decide_eq_false h1
            go_wp2_with fail
            go_quiet (fail)
            go_wp2
            go_roundw
            case rel => exact ⟨j + 1, _, by go_num, by omega, HJ', by first | rfl | exact World.drewN_drewN _ _ _⟩
            case measure => simp [intOf]; omega
          · have HJ' := Lib.hid (any_next HJ.out Hy.out (show hitR (x1, x2) (y1, y2) = false by simp [hitR, h2]))
            have hd1 : decide (x1 ≤ y2) = true := decide_eq_true h1
            have hd2 : decide (y1 ≤ x2) = false := decide_eq_false h2
            go_wp2_with fail
            go_quiet (fail)
            go_wp2
            go_roundw
            case rel => exact ⟨j + 1, _, by go_num, by omega, HJ', by first | rfl | exact World.drewN_drewN _ _ _⟩
            case measure => simp [intOf]; omega
          · have HE : Hid (meetB l q = true) := Lib.hid (by rw [HMB.out]; exact any_hit Hx.out (any_hit Hy.out (show hitR (x1, x2) (y1, y2) = true by simp [hitR, h1, h2])))
            have hd1 : decide (x1 ≤ y2) = true := decide_eq_true h1
            have hd2 : decide (y1 ≤ x2) = true := decide_eq_true h2
            go_wp2_with fail
            go_quiet (fail)
            go_wp2
            go_ret
            exact ⟨by rw [HE.out]; rfl, _, by first | rfl | exact World.drewN_drewN _ _ _⟩
        · have HI' := Lib.hid (any_next HI.out Hx.out (any_all HJ.out (show ¬ j < q.length by have := Hq.out; omega)))
          go_wp2
          go_roundw
          case rel => exact ⟨i + 1, k2, by go_num, by omega, HI', rfl⟩
          case measure => simp [intOf]; omega
    · have HE : Hid (meetB l q = false) := Lib.hid (by rw [HMB.out]; exact any_all HI.out (show ¬ i < l.length by have := Hl.out; omega))
      go_wp2
      go_ret
      exact ⟨by rw [HE.out]; rfl, k, rfl⟩
end Go.Proofs.YthlnfefpdmecaaaGreatDoor

/-
  kerfref04: spaced, Lines, walked.
-/
namespace Go.Proofs.YthlnfefpdmecaaaGreatDoor
open Go.RowKit Go.Maps

/-- A block of bytes that can be written. -/
structure Byt (w : World) (b : Nat) (L : List UInt8) : Prop where
  cell : ∀ j (h : j < L.length), w.cell? ⟨b, j, none⟩ = some (.int .u8 ((L[j]'h).toNat : Int))
  free : ∀ j, j < L.length → w.frozen? ⟨b, j, none⟩ = false
theorem Byt.set_ {w : World} {b : Nat} {L : List UInt8} (h : Byt w b L) {i : Nat} (hi : i < L.length) (c : UInt8) (v : Int) (hv : v = (c.toNat : Int)) : Byt (w.setCell ⟨b, i, none⟩ (.int .u8 v)) b (L.set i c) := by
  subst hv
  refine ⟨fun j hj => ?_, fun j hj => ?_⟩
  · rw [List.length_set] at hj
    by_cases e : i = j
    · subst e
      rw [World.cell?_setCell_same _ _ _ (h.cell i hi)]; simp
    · rw [World.cell?_setCell_other _ _ _ _ (fun k => e (by injection k)), h.cell j hj]; simp [List.getElem_set_ne e]
  · rw [List.length_set] at hj
    rw [World.frozen?_setCell]; exact h.free j hj
theorem byt_world (w : World) (l : List UInt8) : Byt (Lib.bytesWorld w 5 (bytesOf l)) w.heap.size l := by
  refine ⟨fun j hj => ?_, fun j hj => ?_⟩
  · have h1 := Lib.bytesWorld_cell w 5 (bytesOf l) j (by rw [bytesOf_size]; exact hj)
    rw [bytesOf_list, List.getD_eq_getElem?_getD, List.getElem?_eq_getElem hj] at h1
    exact h1
  · unfold World.frozen?
    rw [Lib.bytesWorld_at_new]
    have hc : l.length ≤ (Lib.bytesCells w 5 (bytesOf l)).size := by
      simp [Lib.bytesCells]
      rw [bytesOf_size]; omega
    simp; omega
set_option maxRecDepth 100000 in
set_option maxHeartbeats 2000000 in
theorem vspaced_any (l : List UInt8) (w : World) (hs : l.length ≤ 1000000) : Calls Tryz.prog 153 #[.string (bytesOf l)] w fun e w' => e = .returned (.string (bytesOf (spcL l))) ∧ Below w.heap.size w w' := by
  have hcv := fun W => Lib.run_convert_string_bytes (P := Tryz.prog) W 9 112 5 (bytesOf l) Tryz.underlying9 Tryz.underlying112 Tryz.underlying5
  have hsz : (bytesOf l).size = l.length := bytesOf_size l
  have Hlen : Hid ((spcL l).length = l.length) := Lib.hid (by unfold spcL; rw [List.length_map])
  go_enter Tryz.func153, Tryz.ntmps153
  go_wp2
  have hby := byt_world w l
  have hbw := below_bytesWorld w 5 (bytesOf l)
  generalize Lib.bytesWorld w 5 (bytesOf l) = w1 at hby hbw ⊢
  clear hcv
  go_loopw [4] (fun v wr => ∃ i : Nat, v = .int .i64 i ∧ i ≤ l.length ∧ Byt wr w.heap.size ((spcL l).take i ++ l.drop i) ∧ Below w.heap.size w wr) (fun v _ => l.length - (intOf v).toNat)
  case atStart => exact ⟨0, rfl, by omega, by simpa using hby, hbw⟩
  case round =>
    clear hby hbw
    obtain ⟨i, rfl, hi, hB, hb⟩ := hrel
    have hll : ((spcL l).take i ++ l.drop i).length = l.length := by rw [List.length_append, List.length_take, List.length_drop, Hlen.out]; omega
    by_cases hlt : i < l.length
    · obtain ⟨x, Hx⟩ : ∃ x, Hid (l[i]? = some x) := ⟨_, Lib.hid (List.getElem?_eq_getElem hlt)⟩
      have hgx : ((spcL l).take i ++ l.drop i)[i]'(by omega) = x := by
        have h1 : ((spcL l).take i ++ l.drop i)[i]? = some x := by
          rw [List.getElem?_append_right (by rw [List.length_take, Hlen.out]; omega), List.length_take, Hlen.out, Nat.min_eq_left (by omega), Nat.sub_self, List.getElem?_drop]; exact Hx.out
        obtain ⟨_, h2⟩ := List.getElem?_eq_some_iff.1 h1
        exact h2
      have hc := hB.cell i (by omega)
      rw [hgx] at hc
      have hf := hB.free i (by omega)
      have hnext : ∀ y, y = (if x = 9 then 32 else x) → ((spcL l).take i ++ l.drop i).set i y = (spcL l).take (i + 1) ++ l.drop (i + 1) := fun y hy => by
        have h1 : (spcL l)[i]? = some y := by unfold spcL; rw [List.getElem?_map, Hx.out, hy]; rfl
        rw [drop_at Hx.out, List.take_add_one, h1]
        have h2 : ((spcL l).take i).length = i := by rw [List.length_take, Hlen.out]; omega
        have h3 := set_mid ((spcL l).take i) x y (l.drop (i + 1))
        rw [h2] at h3
        rw [h3]; simp
      by_cases hx9 : x = 9
      · have hz : ((x.toNat : Int) == 9) = true := by rw [hx9]; rfl
        have HN := Lib.hid (hnext 32 (by rw [if_pos hx9]))
        have HB := Lib.hid (hB.set_ (i := i) (by omega) 32 32 rfl)
        rw [HN.out] at HB
        clear hnext hx9 hgx
        go_wp2
        go_roundw
        case rel => exact ⟨i + 1, by go_num, by omega, HB.out, hb.setCell (p := ⟨w.heap.size, i, none⟩) (Nat.le_refl _) _⟩
        case measure => simp [intOf]; omega
      · have hz : ((x.toNat : Int) == 9) = false := beq_eq_false_iff_ne.2 (fun e => hx9 ((u8_eq (n := 9) (by omega)).2 (by omega)))
        have HN := Lib.hid (hnext x (by rw [if_neg hx9]))
        have hsame : ((spcL l).take i ++ l.drop i).set i x = (spcL l).take i ++ l.drop i := by
          conv => lhs; rw [← hgx]
          exact List.set_getElem_self _
        rw [hsame] at HN
        clear hnext hx9 hgx hsame
        go_wp2
        go_roundw
        case rel => exact ⟨i + 1, by go_num, by omega, by rw [← HN.out]; exact hB, hb⟩
        case measure => simp [intOf]; omega
    · have HE : Hid ((spcL l).take i ++ l.drop i = spcL l) := Lib.hid (by rw [List.take_of_length_le (by rw [Hlen.out]; omega), List.drop_of_length_le (by omega), List.append_nil])
      rw [HE.out] at hB
      have hcb := fun c => run_convert_bytes_back (P := Tryz.prog) wr 112 9 5 ⟨w.heap.size, 0, none⟩ c (spcL l) Tryz.underlying112 Tryz.underlying5 Tryz.underlying9 (fun k hk => by
        have e : (⟨w.heap.size, 0, none⟩ : Addr).add k = ⟨w.heap.size, k, none⟩ := by
          unfold Addr.add
          split
          · rename_i h0; rw [h0]
          · simp
        rw [e]; exact hB.cell k hk)
      rw [Hlen.out] at hcb
      go_wp2
      go_ret
      exact ⟨rfl, hb⟩
theorem take_sub {l : List UInt8} {a b : Nat} : (bytesOf l).extract a b = bytesOf ((l.drop a).take (b - a)) := ext_bytes2 l a b
set_option maxRecDepth 100000 in
set_option maxHeartbeats 2000000 in
theorem vLines_any (t : List UInt8) (w : World) (ht : t.length ≤ 1000000) :
    Calls Tryz.prog 119 #[.string (bytesOf t)] w fun e w' => ∃ A n c, e = .returned (.slice A n c) ∧ Own w' w.heap.size 9 1 A n c ((splitL t).map encNm) ∧ Below w.heap.size w w' := by
  obtain ⟨i0, hi0, hz0, hz1, hz2⟩ := info_parts info_cloneS
  have hsz : (bytesOf t).size = t.length := bytesOf_size t
  go_enter Tryz.func119, Tryz.ntmps119
  go_wp2
  go_loopw [3, 4, 5] (fun a f v wr => ∃ (i frm : Nat) (done : List (List UInt8)) (A : Option Addr) (n c : Nat), a = .slice A n c ∧ f = .int .i64 frm ∧ v = .int .i64 i ∧ i ≤ t.length ∧ n ≤ i ∧ frm ≤ i ∧ Hid (LinesAt t i frm done) ∧ Own wr w.heap.size 9 1 A n c (done.map encNm) ∧ Below w.heap.size w wr) (fun _ _ v _ => t.length - (intOf v).toNat)
  case atStart => exact ⟨0, 0, [], none, 0, 0, rfl, rfl, rfl, by omega, by omega, by omega, LinesAt.start t, Own.nil_ _ _ _ _, Below.refl _ _⟩
  case round =>
    obtain ⟨i, frm, done, A, n, c, rfl, rfl, rfl, hi, hni, hfi, HL, ho, hb⟩ := hrel
    have hszr := hb.size
    by_cases hlt : i < t.length
    · have hp : i < (bytesOf t).size := by omega
      have hix := index_at (bytesOf t) i i rfl hp
      obtain ⟨x, hx⟩ : ∃ x, (bytesOf t)[i]'hp = x := ⟨_, rfl⟩
      have Hx : Hid (t[i]? = some x) := Lib.hid (by have := get_list hp; rw [bytesOf_list, hx] at this; exact this)
      have hgi : (((bytesOf t)[i]'hp).toNat : Int) = (x.toNat : Int) := by rw [hx]
      rw [hx] at hix
      clear hx
      by_cases hx10 : x = 10
      · have hz : ((x.toNat : Int) == 10) = true := by rw [hx10]; rfl
        have HL' := Lib.hid (LinesAt.line HL.out (by rw [Hx.out, hx10]))
        have HX := Lib.hid (take_sub (l := t) (a := frm) (b := i))
        clear hx10
        go_wp2_with (at_builtin; go_must (refine wpList_app rfl (.tmp 16) (.tmp 21) _ rfl w.heap.size 9 i0 _ 1 16 Tryz.underlying42 hi0 hz0 hz1 hz2 rfl (by omega) A n c (done.map encNm) rfl (ho.alloc _) _ 1 1 [encNm ((t.drop frm).take (i - frm))] rfl rfl (Rd.newAt (by simp) (by simp [encNm, HX.out])) (encNm_ok [(t.drop frm).take (i - frm)]) (by unfold maxLen; omega) (by omega) (by simp; omega) ?_); intro A3 c3 w3 ho3 hg3 hA3; have hb3 := below_app (hb.alloc (by omega) _) hg3 (by simp; omega) (fun a ha => (ho.lt a ha).1); clear hg3)
        have Ho3 : Own w3 w.heap.size 9 1 A3 (n + 1) c3 ((done ++ [(t.drop frm).take (i - frm)]).map encNm) := by rw [List.map_append]; exact ho3
        clear ho3
        go_roundw
        case rel => exact ⟨i + 1, i + 1, _, A3, n + 1, c3, rfl, by go_num, by go_num, by omega, by omega, by omega, HL', Ho3, hb3⟩
        case measure => simp [intOf]; omega
      · have hz : ((x.toNat : Int) == 10) = false := beq_eq_false_iff_ne.2 (fun e => hx10 ((u8_eq (n := 10) (by omega)).2 (by omega)))
        have HL' := Lib.hid (LinesAt.byte HL.out Hx.out hx10)
        clear hx10
        go_wp2
        go_roundw
        case rel => exact ⟨i + 1, frm, done, A, n, c, rfl, rfl, by go_num, by omega, by omega, by omega, HL', ho, hb⟩
        case measure => simp [intOf]; omega
    · obtain rfl : i = t.length := by omega
      have HE := Lib.hid (LinesAt.done HL.out)
      have HX := Lib.hid (ext_bytes t frm)
      rw [hsz] at HX
      go_wp2_with (at_builtin; go_must (refine wpList_app rfl (.tmp 25) (.tmp 29) _ rfl w.heap.size 9 i0 _ 1 16 Tryz.underlying42 hi0 hz0 hz1 hz2 rfl (by omega) A n c (done.map encNm) rfl (ho.alloc _) _ 1 1 [encNm (t.drop frm)] rfl rfl (Rd.newAt (by simp) (by simp [encNm, HX.out])) (encNm_ok [t.drop frm]) (by unfold maxLen; omega) (by omega) (by simp; omega) ?_); intro A3 c3 w3 ho3 hg3 hA3; have hb3 := below_app (hb.alloc (by omega) _) hg3 (by simp; omega) (fun a ha => (ho.lt a ha).1); clear hg3)
      go_ret
      exact ⟨A3, n + 1, c3, rfl, by rw [HE.out, List.map_append]; exact ho3, hb3⟩
end Go.Proofs.YthlnfefpdmecaaaGreatDoor

/-
  kerfref02.Print: the spelling of a set.
-/
namespace Go.Proofs.YthlnfefpdmecaaaGreatDoor
open Go.RowKit

theorem infoU8' : (Tryz.prog.info? 5).map (fun i => (i.zero, i.size, i.bytes)) = some (some (.int .u8 0), 1, 1) := by kernel_rfl
/-- Bytes that are the call's own. -/
def OwnB (w : World) (B : Nat) (v : Value) (l : List UInt8) : Prop := w.ownsRow B 5 1 v l.length (Lib.byteCells l)
theorem OwnB.below {w w' : World} {B : Nat} {v : Value} {l : List UInt8} (h : OwnB w B v l) (hb : Below w.heap.size w w') : OwnB w' B v l := by
  unfold OwnB at h ⊢
  refine ⟨h.1, ?_⟩
  rcases h.2 with h0 | ⟨g, cap, cur, hv, hg, hh, r⟩
  · exact .inl h0
  · exact .inr ⟨g, cap, cur, hv, hg, (hb.block g (Array.getElem?_eq_some_iff.1 hh).1).trans hh, r⟩
theorem OwnB.convert {w : World} {B : Nat} {v : Value} {l : List UInt8} (h : OwnB w B v l) : (convert 112 9 v).run Tryz.prog w = .ok (.string ⟨l.toArray⟩) w := by
  unfold OwnB at h
  rcases h.2 with ⟨rfl, h0⟩ | ⟨g, cap, cur, rfl, _, hg, _, _, _, ht⟩
  · have : l = [] := List.length_eq_zero_iff.1 h0
    subst this
    exact Lib.run_convert_nil_bytes w 112 9 5 0 Tryz.underlying112 Tryz.underlying5 Tryz.underlying9
  · exact run_convert_bytes_back w 112 9 5 ⟨g, 0, none⟩ cap l Tryz.underlying112 Tryz.underlying5 Tryz.underlying9 (Lib.bytes_of_row hg (by simpa using ht))
theorem OwnB.lt {w : World} {B : Nat} {v : Value} {l : List UInt8} (h : OwnB w B v l) : ∀ k, v.ownBlock = some k → B ≤ k := fun k hk => (World.ownsRow.lt h k hk).1
theorem OwnB.str {w : World} {B : Nat} {v : Value} {l : List UInt8} {s : ByteArray} {n : Nat} (h : w.ownsRow B 5 1 v (n + s.size) (Lib.byteCells l ++ Lib.strCells s)) (hn : n = l.length) : OwnB w B v (l ++ s.data.toList) := by
  unfold OwnB
  subst hn
  have e1 : Lib.byteCells (l ++ s.data.toList) = Lib.byteCells l ++ Lib.strCells s := by simp [Lib.byteCells, Lib.strCells]
  rw [e1, List.length_append, Array.length_toList]
  exact h
theorem OwnB.byte {w : World} {B : Nat} {v : Value} {l : List UInt8} {c : UInt8} {n : Nat} (h : w.ownsRow B 5 1 v (n + 1) (Lib.byteCells l ++ [.int .u8 c.toNat])) (hn : n = l.length) : OwnB w B v (l ++ [c]) := by
  unfold OwnB
  subst hn
  have e1 : Lib.byteCells (l ++ [c]) = Lib.byteCells l ++ [.int .u8 c.toNat] := by simp [Lib.byteCells]
  rw [e1, List.length_append]
  exact h
theorem OwnB.form {w : World} {B : Nat} {v : Value} {l : List UInt8} (h : OwnB w B v l) : ∃ A n c, v = .slice A n c := by
  unfold OwnB at h
  rcases h.2 with ⟨rfl, _⟩ | ⟨g, cap, cur, rfl, _⟩
  · exact ⟨_, _, _, rfl⟩
  · exact ⟨_, _, _, rfl⟩
theorem cell_grown {w w' : World} {o : Obj} {B b i : Nat} {v u : Value} {l : List UInt8} (hu : w.cell? ⟨b, i, none⟩ = some u) (ho : OwnB (w.alloc o) B v l) (hg : (w.alloc o).grownBy w' v.ownBlock) (hb : b < B) : w'.cell? ⟨b, i, none⟩ = some u := by
  have h1 : (w.alloc o).cell? ⟨b, i, none⟩ = some u := cell_keep hu ((Below.refl _ _).alloc (Nat.le_refl _) o)
  exact (World.cell?_of_block (hg.block b (cell_lt h1) (fun e => by have := ho.lt b e.symm; omega))).trans h1
theorem cell_grownS {w w' : World} {B b i : Nat} {v u : Value} {l : List UInt8} (hu : w.cell? ⟨b, i, none⟩ = some u) (ho : OwnB w B v l) (hg : w.grownBy w' v.ownBlock) (hb : b < B) : w'.cell? ⟨b, i, none⟩ = some u :=
  (World.cell?_of_block (hg.block b (cell_lt hu) (fun e => by have := ho.lt b e.symm; omega))).trans hu
theorem below_ownB {B : Nat} {a w w' : World} {v : Value} {l : List UInt8} (h : Below B a w) (ho : OwnB w B v l) (hg : w.grownBy w' v.ownBlock) (hB : B ≤ w.heap.size) : Below B a w' := h.grown hg hB fun k hk => ho.lt k hk
theorem cell_newB (w : World) {t : TypeId} (x : Value) : ∀ j u, [x][j]? = some u → (w.alloc (.cells #[x] t)).cell? ((⟨w.heap.size, 0, none⟩ : Addr).add j) = some u := fun j u h => by
  match j, h with
  | 0, h =>
    obtain rfl : x = u := by simpa using h
    exact (Blk.new w t #[x]).cell 0

end Go.Proofs.YthlnfefpdmecaaaGreatDoor

/-
  kerflaw04.PropsBack, walked.
-/
namespace Go.Proofs.YthlnfefpdmecaaaGreatDoor
open Go.RowKit Go.Maps

theorem setI_at {d : DbP} {i : Nat} {s : List (Int × Int)} (h : d.full[i]? = some s) : d.setI (i : Int) = s := by
  unfold DbP.setI
  rw [if_pos (by omega), List.getD_eq_getElem?_getD, show ((i : Int).toNat) = i by omega, h]; rfl
end Go.Proofs.YthlnfefpdmecaaaGreatDoor

/-
  kerfref04: Get, Set, Text, walked.
-/
namespace Go.Proofs.YthlnfefpdmecaaaGreatDoor
open Go.RowKit Go.Maps

theorem getGo_hit {q : Int} {i : Nat} {s : List (Int × Int)} {S : List (List (Int × Int))} (h : hasB s q = true) : getGo q i (s :: S) = i := by unfold getGo; rw [if_pos h]
theorem getGo_miss {q : Int} {i : Nat} {s : List (Int × Int)} {S : List (List (Int × Int))} (h : hasB s q = false) : getGo q i (s :: S) = getGo q (i + 1) S := by conv => lhs; unfold getGo; rw [if_neg (by rw [h]; simp)]
theorem getGo_end {q : Int} {i : Nat} : getGo q i [] = 0 := rfl
set_option maxRecDepth 100000 in
set_option maxHeartbeats 4000000 in
theorem vGet_any (base p x : Nat) (d : DbP) (r : Int) (w : World) (h : RfB w base p x d.names d.full) (ho : d.Ok) (hap : Apart d.sets) :
    Calls Tryz.prog 52 #[.pointer (some ⟨p, 0, none⟩), .int .i32 r] w fun e w' => e = .returned (.int .i64 (d.get r : Nat)) ∧ w = w' := by
  obtain ⟨An, nn, cn, As, ns, cs, xs, hX⟩ := h.ex
  have hls := hX.lenS
  have hfl := full_len ho
  have hn0 : 0 < ns := by
    have h3 := ho.head
    cases hd : d.names with
    | nil => rw [hd] at h3; cases h3
    | cons a b => rw [hd] at hfl; simp at hfl; omega
  have hn64 : ns ≤ 64 := by have := ho.few; omega
  obtain ⟨g, rfl, _, _⟩ := hX.hs.form hn0
  have c1 := hX.blk.cell 1
  simp only [List.getElem?_toArray, List.getElem?_cons_zero, List.getElem?_cons_succ] at c1
  have HF := Lib.hid (fun i s (hi : d.full[i]? = some s) => full_small ho hap hi)
  have HG : Hid (d.get r = getGo (askR r) 1 d.full.tail) := rfl
  have Hls := Lib.hid (show d.full.length = ns from hls.2)
  have hcase : (r < 0 ∧ askR r = 65533) ∨ (¬ r < 0 ∧ 1114111 < r ∧ askR r = 65533) ∨ (¬ r < 0 ∧ ¬ 1114111 < r ∧ askR r = r) := by
    unfold askR; split <;> omega
  obtain ⟨q, hq⟩ : ∃ q, askR r = q := ⟨_, rfl⟩
  rw [hq] at HG hcase
  clear ho hap h hfl hq
  rcases hcase with ⟨h1, rfl⟩ | ⟨h1, h2, rfl⟩ | ⟨h1, h2, rfl⟩
  · go_enter Tryz.func52, Tryz.ntmps52
    go_wp2_with fail
    go_loopw [5] (fun v wr => ∃ k : Nat, v = .int .i64 (k + 1 : Nat) ∧ k + 1 ≤ ns ∧ wr = w ∧ Hid (d.get r = getGo 65533 (k + 1) (d.full.tail.drop k))) (fun v _ => ns - (intOf v).toNat)
    case atStart => exact ⟨0, rfl, by omega, rfl, by rw [List.drop_zero]; exact HG⟩
    case round =>
      obtain ⟨k, rfl, hk, rfl, HK⟩ := hrel
      by_cases hlt : k + 1 < ns
      · obtain ⟨s, Hs⟩ : ∃ s, Hid (d.full[k + 1]? = some s) := ⟨_, Lib.hid (List.getElem?_eq_getElem (show k + 1 < d.full.length by have := Hls.out; omega))⟩
        obtain ⟨⟨yA, yn, yc⟩, Hy⟩ : ∃ y, Hid (xs[k + 1]? = some y) := ⟨_, Lib.hid (List.getElem?_eq_getElem (show k + 1 < xs.length by omega))⟩
        have hoy : Own wr base 146 2 yA yn yc (s.map encR) := hX.hx.own (k + 1) (yA, yn, yc) s Hy.out Hs.out
        have hly : s.length = yn := by simpa using hoy.len
        have hsm := HF.out _ s Hs.out
        have hcell := hX.hs.cell' rfl Hy.out
        have HH := Lib.hid (sHas_any yA yn yc s 65533 wr (hoy.rd (by omega)) hly (by omega))
        have HD := Lib.hid (drop_at (show d.full.tail[k]? = some s by rw [List.getElem?_tail]; exact Hs.out))
        have hI : (k : Int) + 1 < ns := by omega
        rw [HD.out] at HK
        cases hv : hasB s 65533 with
        | true =>
          have HE := Lib.hid (HK.out.trans (getGo_hit hv))
          rw [hv] at HH
          clear hv hly
          go_wp2_with (go_at_call 109; refine HH.out.mono ?_; rintro e w2 ⟨rfl, rfl⟩)
          go_ret
          exact ⟨by rw [HE.out]; rfl, rfl⟩
        | false =>
          have HE := Lib.hid (HK.out.trans (getGo_miss hv))
          rw [hv] at HH
          clear hv hly
          go_wp2_with (go_at_call 109; refine HH.out.mono ?_; rintro e w2 ⟨rfl, rfl⟩)
          go_roundw
          case rel => exact ⟨k + 1, by go_num, by omega, by first | rfl | trivial, HE⟩
          case measure => simp [intOf]; omega
      · have HE : Hid (d.get r = 0) := Lib.hid (by rw [HK.out, List.drop_of_length_le (by rw [List.length_tail]; have := Hls.out; omega)]; rfl)
        obtain rfl : k + 1 = ns := by omega
        go_wp2
        go_ret
        exact ⟨by rw [HE.out]; rfl, rfl⟩
  · go_enter Tryz.func52, Tryz.ntmps52
    go_wp2_with fail
    go_loopw [5] (fun v wr => ∃ k : Nat, v = .int .i64 (k + 1 : Nat) ∧ k + 1 ≤ ns ∧ wr = w ∧ Hid (d.get r = getGo 65533 (k + 1) (d.full.tail.drop k))) (fun v _ => ns - (intOf v).toNat)
    case atStart => exact ⟨0, rfl, by omega, rfl, by rw [List.drop_zero]; exact HG⟩
    case round =>
      obtain ⟨k, rfl, hk, rfl, HK⟩ := hrel
      by_cases hlt : k + 1 < ns
      · obtain ⟨s, Hs⟩ : ∃ s, Hid (d.full[k + 1]? = some s) := ⟨_, Lib.hid (List.getElem?_eq_getElem (show k + 1 < d.full.length by have := Hls.out; omega))⟩
        obtain ⟨⟨yA, yn, yc⟩, Hy⟩ : ∃ y, Hid (xs[k + 1]? = some y) := ⟨_, Lib.hid (List.getElem?_eq_getElem (show k + 1 < xs.length by omega))⟩
        have hoy : Own wr base 146 2 yA yn yc (s.map encR) := hX.hx.own (k + 1) (yA, yn, yc) s Hy.out Hs.out
        have hly : s.length = yn := by simpa using hoy.len
        have hsm := HF.out _ s Hs.out
        have hcell := hX.hs.cell' rfl Hy.out
        have HH := Lib.hid (sHas_any yA yn yc s 65533 wr (hoy.rd (by omega)) hly (by omega))
        have HD := Lib.hid (drop_at (show d.full.tail[k]? = some s by rw [List.getElem?_tail]; exact Hs.out))
        have hI : (k : Int) + 1 < ns := by omega
        rw [HD.out] at HK
        cases hv : hasB s 65533 with
        | true =>
          have HE := Lib.hid (HK.out.trans (getGo_hit hv))
          rw [hv] at HH
          clear hv hly
          go_wp2_with (go_at_call 109; refine HH.out.mono ?_; rintro e w2 ⟨rfl, rfl⟩)
          go_ret
          exact ⟨by rw [HE.out]; rfl, rfl⟩
        | false =>
          have HE := Lib.hid (HK.out.trans (getGo_miss hv))
          rw [hv] at HH
          clear hv hly
          go_wp2_with (go_at_call 109; refine HH.out.mono ?_; rintro e w2 ⟨rfl, rfl⟩)
          go_roundw
          case rel => exact ⟨k + 1, by go_num, by omega, by first | rfl | trivial, HE⟩
          case measure => simp [intOf]; omega
      · have HE : Hid (d.get r = 0) := Lib.hid (by rw [HK.out, List.drop_of_length_le (by rw [List.length_tail]; have := Hls.out; omega)]; rfl)
        obtain rfl : k + 1 = ns := by omega
        go_wp2
        go_ret
        exact ⟨by rw [HE.out]; rfl, rfl⟩
  · go_enter Tryz.func52, Tryz.ntmps52
    go_wp2_with fail
    go_loopw [5] (fun v wr => ∃ k : Nat, v = .int .i64 (k + 1 : Nat) ∧ k + 1 ≤ ns ∧ wr = w ∧ Hid (d.get q = getGo q (k + 1) (d.full.tail.drop k))) (fun v _ => ns - (intOf v).toNat)
    case atStart => exact ⟨0, rfl, by omega, rfl, by rw [List.drop_zero]; exact HG⟩
    case round =>
      obtain ⟨k, rfl, hk, rfl, HK⟩ := hrel
      by_cases hlt : k + 1 < ns
      · obtain ⟨s, Hs⟩ : ∃ s, Hid (d.full[k + 1]? = some s) := ⟨_, Lib.hid (List.getElem?_eq_getElem (show k + 1 < d.full.length by have := Hls.out; omega))⟩
        obtain ⟨⟨yA, yn, yc⟩, Hy⟩ : ∃ y, Hid (xs[k + 1]? = some y) := ⟨_, Lib.hid (List.getElem?_eq_getElem (show k + 1 < xs.length by omega))⟩
        have hoy : Own wr base 146 2 yA yn yc (s.map encR) := hX.hx.own (k + 1) (yA, yn, yc) s Hy.out Hs.out
        have hly : s.length = yn := by simpa using hoy.len
        have hsm := HF.out _ s Hs.out
        have hcell := hX.hs.cell' rfl Hy.out
        have HH := Lib.hid (sHas_any yA yn yc s q wr (hoy.rd (by omega)) hly (by omega))
        have HD := Lib.hid (drop_at (show d.full.tail[k]? = some s by rw [List.getElem?_tail]; exact Hs.out))
        have hI : (k : Int) + 1 < ns := by omega
        rw [HD.out] at HK
        cases hv : hasB s q with
        | true =>
          have HE := Lib.hid (HK.out.trans (getGo_hit hv))
          rw [hv] at HH
          clear hv hly
          go_wp2_with (go_at_call 109; refine HH.out.mono ?_; rintro e w2 ⟨rfl, rfl⟩)
          go_ret
          exact ⟨by rw [HE.out]; rfl, rfl⟩
        | false =>
          have HE := Lib.hid (HK.out.trans (getGo_miss hv))
          rw [hv] at HH
          clear hv hly
          go_wp2_with (go_at_call 109; refine HH.out.mono ?_; rintro e w2 ⟨rfl, rfl⟩)
          go_roundw
          case rel => exact ⟨k + 1, by go_num, by omega, by first | rfl | trivial, HE⟩
          case measure => simp [intOf]; omega
      · have HE : Hid (d.get q = 0) := Lib.hid (by rw [HK.out, List.drop_of_length_le (by rw [List.length_tail]; have := Hls.out; omega)]; rfl)
        obtain rfl : k + 1 = ns := by omega
        go_wp2
        go_ret
        exact ⟨by rw [HE.out]; rfl, rfl⟩
end Go.Proofs.YthlnfefpdmecaaaGreatDoor

/-
  PLAIN: lines: behind blanks that follow a letter, ahead of a letter. Words: flags by twos; which places are bounds. No walk.
-/
namespace Go.Proofs.YthlnfefpdmecaaaGreatDoor

theorem lPast_run {c : List Int} {k : Int} {m : Nat} : ∀ (n : Nat), (∀ j, j < n → c.getD (m + j) 0 = k) → lPast c k (m + n) = lPast c k m
  | 0, _ => rfl
  | n + 1, h => by
    show lPast c k ((m + n) + 1) = _
    rw [lPast_on (h n (by omega)), lPast_run n (fun j hj => h j (by omega))]
/-- Within blanks behind a letter. -/
theorem lBlank_in {c : List Int} {m n i : Nat} (h0 : c.getD m 0 = 0) (hb : ∀ j, j < n → c.getD (m + 1 + j) 0 = 4) (hi : i < n) : lCut c (m + 1 + i) = false := by
  cases i with
  | zero =>
    have h4 := hb 0 (by omega)
    refine lCut_blank (by rw [h0]; rfl) ?_
    rw [Nat.add_zero] at h4
    rw [h4]; rfl
  | succ i =>
    have h4 := hb (i + 1) hi
    have h5 := hb i (by omega)
    have : lCut c ((m + 1 + i) + 1) = false := lCut_blank (by rw [h5]; rfl) (by rw [show m + 1 + i + 1 = m + 1 + (i + 1) by omega, h4]; rfl)
    exact this
/-- Behind them, ahead of a letter. -/
theorem lBlank_end {c : List Int} {m n : Nat} (h0 : c.getD m 0 = 0) (hb : ∀ j, j < n → c.getD (m + 1 + j) 0 = 4) (hn : 1 ≤ n) (hq : c.getD (m + 1 + n) 0 = 0) : lCut c (m + 1 + n) = true ∧ lMust (c.getD (m + 1 + n - 1) 0) = false := by
  obtain ⟨k, rfl⟩ : ∃ k, n = k + 1 := ⟨n - 1, by omega⟩
  have h4 := hb k (by omega)
  have e : m + 1 + (k + 1) - 1 = m + 1 + k := by omega
  have p4 : lPast c 4 (m + 1 + (k + 1)) = m + 1 := by rw [lPast_run (m := m + 1) (k + 1) hb, lPast_here (by rw [h0]; omega)]
  have p8 : lPast c 8 (m + 1 + (k + 1)) = m + 1 + (k + 1) := by
    show lPast c 8 ((m + 1 + k) + 1) = _
    rw [lPast_here (by rw [h4]; omega)]; rfl
  have b4 : lLast c (m + 1 + (k + 1)) = 4 := by
    show lLast c ((m + 1 + k) + 1) = 4
    rw [lLast_succ, h4]
  have o8 : lPast c 8 (m + 1) = m + 1 := lPast_here (by rw [h0]; omega)
  refine ⟨?_, by rw [e, h4]; rfl⟩
  unfold lCut lOver
  dsimp only
  rw [e, h4, hq, p4, p8, b4, o8, lLast_succ, h0]
  rfl

/- Words. -/
theorem wPick_mem {c : List Int} {a : Nat} : ∀ {P : List Nat} {i : Nat}, a ∈ wPick c i P ↔ ∃ k, P[k]? = some a ∧ (i + k = 0 ∨ wCut c (i + k) = true)
  | [], i => by simp [wPick]
  | b :: P, i => by
    rw [wPick, List.mem_append, wPick_mem (P := P)]
    constructor
    · rintro (h | ⟨k, h1, h2⟩)
      · split at h
        · rename_i hc
          simp at h
          exact ⟨0, by simp [h], by simpa using hc⟩
        · simp at h
      · exact ⟨k + 1, by simpa using h1, by rw [show i + (k + 1) = i + 1 + k by omega]; exact h2⟩
    · rintro ⟨k, h1, h2⟩
      cases k with
      | zero =>
        simp at h1; subst h1
        exact .inl (by rw [if_pos (by simpa using h2)]; simp)
      | succ k => exact .inr ⟨k, by simpa using h1, by rw [show i + 1 + k = i + (k + 1) by omega]; exact h2⟩
theorem places_inj (s : ByteArray) {k j : Nat} {x y : Nat × Nat × Nat} (hk : (runesP s)[k]? = some x) (hj : (runesP s)[j]? = some y) (h : x.2.1 = y.2.1) : k = j := by
  have hr := List.pairwise_iff_getElem.1 (runes_rise s)
  obtain ⟨h1, rfl⟩ := List.getElem?_eq_some_iff.1 hk
  obtain ⟨h2, rfl⟩ := List.getElem?_eq_some_iff.1 hj
  rcases Nat.lt_trichotomy k j with hlt | he | hgt
  · have := hr k j h1 h2 hlt; omega
  · exact he
  · have := hr j k h2 h1 hgt; omega
/-- Whether a bound stands ahead of a rune. -/
theorem wBounds_at {g : Int → Nat} {s : ByteArray} {k : Nat} {x : Nat × Nat × Nat} (hx : (runesP s)[k]? = some x) : x.2.1 ∈ wBounds g s ↔ k = 0 ∨ wCut (wCls g s) k = true := by
  have hb := runesP_bd x (List.mem_of_getElem? hx)
  unfold wBounds
  rw [List.mem_append]
  constructor
  · rintro (h | h)
    · obtain ⟨j, h1, h2⟩ := wPick_mem.1 h
      rw [List.getElem?_map] at h1
      obtain ⟨y, hy, e⟩ := Option.map_eq_some_iff.1 h1
      have := places_inj s hx hy e.symm
      subst this
      simpa using h2
    · split at h
      · simp at h
      · simp at h; omega
  · intro h
    exact .inl (wPick_mem.2 ⟨k, by rw [List.getElem?_map, hx]; rfl, by simpa using h⟩)
theorem wReg_run {c : List Int} {m : Nat} (hm : wOf c (wBack c m) ≠ 7) : ∀ (i f : Nat), (∀ j, j < i → c.getD (m + j) 0 = 7) → m + i ≤ c.length → m + i < f → wRegGo c f (m + i) = i
  | _, 0, _, _, h => by omega
  | 0, f + 1, _, _, _ => by rw [wRegGo, Nat.add_zero, if_neg hm]
  | i + 1, f + 1, h, hl, hf => by
    have h7 := h i (by omega)
    have hb : wBack c (m + (i + 1)) = (m + i : Nat) := by
      show wBack c ((m + i) + 1) = _
      exact wBack_here (by rw [h7]; rfl)
    rw [wRegGo, hb, wOf_nat (by omega), h7, if_pos rfl, Int.toNat_natCast, wReg_run hm i f (fun j hj => h j (by omega)) (by omega) (by omega)]
theorem letters_flag (z n : Int) : wLetters z 7 7 n = false := by unfold wLetters; simp [wLet, wInW, wInN, wJoin]
/-- Of a run of flags every second place within is a bound. -/
theorem wCut_flags {c : List Int} {m n i : Nat} (hm : wOf c (wBack c m) ≠ 7) (h : ∀ j, j < n → c.getD (m + j) 0 = 7) (hl : m + n ≤ c.length) (h1 : 1 ≤ i) (hi : i < n) : wCut c (m + i) = (i % 2 == 0) := by
  obtain ⟨k, rfl⟩ : ∃ k, i = k + 1 := ⟨i - 1, by omega⟩
  have hp := h k (by omega)
  have hq := h (k + 1) hi
  have hb : wBack c (m + (k + 1)) = (m + k : Nat) := by
    show wBack c ((m + k) + 1) = _
    exact wBack_here (by rw [hp]; rfl)
  have hr : wReg c (m + (k + 1)) = k + 1 := wReg_run hm (k + 1) _ (fun j hj => h j (by omega)) (by omega) (by omega)
  unfold wCut
  dsimp only
  rw [show m + (k + 1) - 1 = m + k by omega, hp, hq, hb, wOf_nat (by omega), hp, letters_flag, hr]
  rfl
end Go.Proofs.YthlnfefpdmecaaaGreatDoor

/-
  PLAIN: lines: which chances there are; a line's end stands at the end of a line alone. No walk.
-/
namespace Go.Proofs.YthlnfefpdmecaaaGreatDoor

theorem lPick_mem {c : List Int} {a : Nat} {b : Bool} : ∀ {P : List Nat} {i : Nat}, (a, b) ∈ lPick c i P ↔ ∃ k, P[k]? = some a ∧ i + k ≠ 0 ∧ lCut c (i + k) = true ∧ b = lMust (c.getD (i + k - 1) 0)
  | [], i => by simp [lPick]
  | d :: P, i => by
    rw [lPick, List.mem_append, lPick_mem (P := P)]
    constructor
    · rintro (h | ⟨k, h1, h2, h3, h4⟩)
      · split at h
        · rename_i hc
          simp only [List.mem_singleton, Prod.mk.injEq] at h
          exact ⟨0, by simp [h.1], hc.1, hc.2, h.2⟩
        · simp at h
      · refine ⟨k + 1, by simpa using h1, by omega, ?_, ?_⟩
        · rw [show i + (k + 1) = i + 1 + k by omega]; exact h3
        · rw [show i + (k + 1) - 1 = i + 1 + k - 1 by omega]; exact h4
    · rintro ⟨k, h1, h2, h3, h4⟩
      cases k with
      | zero =>
        simp at h1; subst h1
        exact .inl (by rw [if_pos ⟨h2, h3⟩, h4]; exact List.mem_singleton.2 rfl)
      | succ k =>
        refine .inr ⟨k, by simpa using h1, by omega, ?_, ?_⟩
        · rw [show i + 1 + k = i + (k + 1) by omega]; exact h3
        · rw [show i + 1 + k - 1 = i + (k + 1) - 1 by omega]; exact h4
theorem lInj (s : ByteArray) {k j : Nat} {x y : Nat × Nat × Nat} (hk : (runesP s)[k]? = some x) (hj : (runesP s)[j]? = some y) (h : x.2.1 = y.2.1) : k = j := by
  have hr := List.pairwise_iff_getElem.1 (runes_rise' s)
  obtain ⟨h1, rfl⟩ := List.getElem?_eq_some_iff.1 hk
  obtain ⟨h2, rfl⟩ := List.getElem?_eq_some_iff.1 hj
  rcases Nat.lt_trichotomy k j with hlt | he | hgt
  · have := hr k j h1 h2 hlt; omega
  · exact he
  · have := hr j k h2 h1 hgt; omega
/-- Which chance stands ahead of a rune. -/
theorem lChances_at {g : Int → Nat} {s : ByteArray} {k : Nat} {x : Nat × Nat × Nat} (hx : (runesP s)[k]? = some x) (b : Bool) : (x.2.1, b) ∈ lChances g s ↔ k ≠ 0 ∧ lCut (lCls g s) k = true ∧ b = lMust ((lCls g s).getD (k - 1) 0) := by
  have hb := runesP_bd x (List.mem_of_getElem? hx)
  unfold lChances
  rw [List.mem_append]
  constructor
  · rintro (h | h)
    · obtain ⟨j, h1, h2, h3, h4⟩ := lPick_mem.1 h
      rw [List.getElem?_map] at h1
      obtain ⟨y, hy, e⟩ := Option.map_eq_some_iff.1 h1
      have := lInj s hx hy e.symm
      subst this
      rw [Nat.zero_add] at h2 h3 h4
      exact ⟨h2, h3, h4⟩
    · split at h
      · simp at h
      · simp at h; omega
  · rintro ⟨h2, h3, h4⟩
    exact .inl (lPick_mem.2 ⟨k, by rw [List.getElem?_map, hx]; rfl, by rw [Nat.zero_add]; exact ⟨h2, h3, h4⟩⟩)
/-- Within a line no line ends. -/
theorem line_inside {g : Int → Nat} {s : ByteArray} {a b : Nat} (hab : a ≤ b) (ha : PlaceAt s a) (hb : PlaceAt s b) (hno : ∀ p, a < p → p < b → (p, true) ∉ lChances g s) {i : Nat} {p q : Int} (hp : (lCls g (s.extract a b))[i]? = some p) (hq : (lCls g (s.extract a b))[i + 1]? = some q) :
    p ≠ 1 ∧ p ≠ 3 ∧ (p = 2 → q = 3 ∧ i + 2 = (lCls g (s.extract a b)).length) := by
  obtain ⟨P, Q, hPQ, hP, hQ⟩ := runes_sub s hab ha hb
  have hbz := hb.le
  have ht : (s.extract a b).size = b - a := by rw [ByteArray.size_extract]; omega
  have hcs : lCls g s = P.map (fun x => (g x.1 : Int)) ++ lCls g (s.extract a b) ++ Q.map (fun x => (g x.1 : Int)) := by
    unfold lCls
    rw [hPQ, List.map_append, List.map_append, List.map_map]; rfl
  have hget : ∀ k (v : Int), (lCls g (s.extract a b))[k]? = some v → (lCls g s).getD (P.length + k) 0 = v := fun k v hk => by
    have hlt := (List.getElem?_eq_some_iff.1 hk).1
    rw [hcs, List.getD_eq_getElem?_getD, List.append_assoc, List.getElem?_append_right (by rw [List.length_map]; omega), List.length_map, Nat.add_sub_cancel_left, List.getElem?_append_left hlt, hk]; rfl
  -- a place inside, behind the first rune
  have hin : ∀ k, 0 < k → k < (lCls g (s.extract a b)).length → ¬ (lCut (lCls g s) (P.length + k) = true ∧ lMust ((lCls g s).getD (P.length + k - 1) 0) = true) := fun k hk0 hk hc => by
    rw [lCls_len] at hk
    have hx : (runesP s)[P.length + k]? = some (shR a (runesP (s.extract a b))[k]) := by
      rw [hPQ, List.append_assoc, List.getElem?_append_right (by omega), Nat.add_sub_cancel_left, List.getElem?_append_left (by rw [List.length_map]; exact hk), List.getElem?_map, List.getElem?_eq_getElem hk]; rfl
    have hb2 := runesP_bd _ (List.getElem_mem hk)
    have h0 : (runesP (s.extract a b))[0].2.1 < (runesP (s.extract a b))[k].2.1 := List.pairwise_iff_getElem.1 (runes_rise' _) 0 k (by omega) hk hk0
    refine hno (shR a (runesP (s.extract a b))[k]).2.1 (by simp only [shR]; omega) (by simp only [shR]; omega) ?_
    exact (lChances_at hx true).2 ⟨by omega, hc.1, hc.2.symm⟩
  have hlq := (List.getElem?_eq_some_iff.1 hq).1
  have gp := hget i p hp
  have gq := hget (i + 1) q hq
  have step : lMust p = true → p = 2 ∧ q = 3 := fun hm => by
    have hc := lCut_end (c := lCls g s) (i := P.length + i) (by rw [gp]; exact hm)
    have gq' : (lCls g s).getD (P.length + i + 1) 0 = q := gq
    rw [gp, gq'] at hc
    by_cases h23 : p = 2 ∧ q = 3
    · exact h23
    · exfalso
      rw [decide_eq_false h23] at hc
      exact hin (i + 1) (by omega) hlq ⟨hc, by rw [show P.length + (i + 1) - 1 = P.length + i by omega, gp]; exact hm⟩
  refine ⟨fun h => ?_, fun h => ?_, fun h => ?_⟩
  · have := step (by rw [h]; rfl); omega
  · have := step (by rw [h]; rfl); omega
  · obtain ⟨_, hq3⟩ := step (by rw [h]; rfl)
    refine ⟨hq3, ?_⟩
    rcases Nat.lt_or_ge (i + 2) (lCls g (s.extract a b)).length with hlt | hge
    · exfalso
      have hc := lCut_end (c := lCls g s) (i := P.length + (i + 1)) (by rw [gq, hq3]; rfl)
      rw [gq, decide_eq_false (by omega)] at hc
      exact hin (i + 2) (by omega) hlt ⟨hc, by rw [show P.length + (i + 2) - 1 = P.length + (i + 1) by omega, gq, hq3]; rfl⟩
    · omega
end Go.Proofs.YthlnfefpdmecaaaGreatDoor

