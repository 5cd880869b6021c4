/-
  line.scan, walked.
-/
import Derived.Test.YtlbfbkdcjdeagaaGreatDoorYLineWhole0a
namespace Go.Proofs.YtlbfbkdcjdeagaaGreatDoor
open Go.RowKit

theorem scAt_endL {g : Int → Nat} {s : ByteArray} {f q : Nat} {P : List Nat} {C : List Int} (h : ScAt g s f q P C) (hp : ¬ q < s.size) : P = (runesP s).map (·.2.1) ∧ C = lCls g s := scAt_end h hp
theorem res_tscan (w : World) (b : Nat) (tmps : Array Value) (ht : tmps.getD 2 undef = .pointer (some ⟨b, 0, none⟩)) {A1 A2 : Option Addr} {n1 c1 n2 c2 : Nat} (h : Blk w b 87 #[.slice A1 n1 c1, .slice A2 n2 c2]) :
    (results Tryz.f71 tmps).run Tryz.prog w = .ok (.agg #[.slice A1 n1 c1, .slice A2 n2 c2]) w := by
  have ht' : tmps[2]?.getD undef = .pointer (some ⟨b, 0, none⟩) := by simpa [Array.getD_eq_getD_getElem?] using ht
  have h0 := h.cell 0
  have h1 := h.cell 1
  simp only [List.getElem?_toArray, List.getElem?_cons_zero, List.getElem?_cons_succ] at h0 h1
  simp [results, Tryz.results71, go_sem, ht', h0, h1]
set_option maxRecDepth 100000 in
set_option maxHeartbeats 8000000 in
theorem tscan_any (s : ByteArray) (w : World) (hE : Env w) (hs : s.size ≤ 1000000) :
    Calls Tryz.prog 71 #[.string s] w fun e w' => ∃ A1 n1 c1 A2 n2 c2, e = .returned (.agg #[.slice A1 n1 c1, .slice A2 n2 c2]) ∧ Own w' w.heap.size 3 1 A1 n1 c1 (((runesP s).map (·.2.1)).map encN) ∧
      Own w' w.heap.size 3 1 A2 n2 c2 ((lCls gL s).map encZ) ∧ Below w.heap.size w w' := by
  obtain ⟨i0, hi0, hz0, hz1, hz2⟩ := info_parts infoInt
  have hB0 : Below w.heap.size w (w.alloc (.cells #[.slice none 0 0, .slice none 0 0] 87)) := (Below.refl _ _).alloc (Nat.le_refl _) _
  have hR0 := Blk.new w 87 #[.slice none 0 0, .slice none 0 0]
  have hE0 := hE.below hB0
  go_enter Tryz.func71, Tryz.ntmps71
  generalize hT : ByteArray.mk _ = T
  have HN : newP T.data.toList = .ok linesD := by rw [← hT]; exact new_K (by kernel_rfl) (by kernel_rfl)
  have hTl : T.data.toList.length ≤ maxLen := by rw [← hT]; exact of_decide_eq_true (by kernel_rfl)
  clear hT
  have HC := wNew_any T.data.toList _ hE0 hTl
  rw [HN, bytes_is] at HC
  replace HC := Lib.hid HC
  clear HN hTl
  go_wp2_with fail
  refine HC.out.mono ?_
  rintro e w1 ⟨⟨p, rfl, hd⟩, hb1⟩
  clear HC
  have hR1 := hR0.below hb1
  have hB1 : Below w.heap.size w w1 := hB0.trans (hb1.mono (by simp))
  have hsz1 : w.heap.size < w1.heap.size := hR1.lt
  clear hR0 hB0 hE0 hb1
  have hM0 : ScM ((w1.alloc (.cells #[.slice none 0 0, .slice none 0 0] 87)).iter s 0) 87 w1.heap.size (w1.heap.size + 2) w1.heap.size (w1.heap.size + 1) s 0 [] none 0 0 none 0 0 [] [] :=
    ⟨(Blk.new w1 _ _).alloc _, (by have := iter_new (w1.alloc (.cells #[.slice none 0 0, .slice none 0 0] 87)) s 0; simpa using this), Own.nil_ _ _ _ _, Own.nil_ _ _ _ _, fun _ _ h => (by cases h), (by unfold World.iter; simp)⟩
  have hB2 : Below w1.heap.size w1 ((w1.alloc (.cells #[.slice none 0 0, .slice none 0 0] 87)).iter s 0) := below_iter ((Below.refl _ _).alloc (Nat.le_refl _) _) (by simp) _ _
  have HA0 := Lib.hid (scAt_first gL s)
  have HD := Lib.hid hd
  clear hd hE
  go_wp2_with fail
  go_loopw [7] (fun _ wr => ∃ (q f : Nat) (A1 : Option Addr) (n1 c1 : Nat) (A2 : Option Addr) (n2 c2 : Nat) (P : List Nat) (C : List Int), ScM wr 87 w1.heap.size (w1.heap.size + 2) w1.heap.size (w1.heap.size + 1) s q [] A1 n1 c1 A2 n2 c2 P C ∧
      n1 ≤ q ∧ n2 ≤ q ∧ q ≤ s.size ∧ Hid (ScAt gL s f q P C) ∧ Below w1.heap.size w1 wr) (fun _ wr => s.size - wr.iterPos (w1.heap.size + 1))
  case atStart => exact ⟨0, s.size, none, 0, 0, none, 0, 0, [], [], hM0, by omega, by omega, by omega, HA0, hB2⟩
  case round =>
    clear hM0 hB2 HA0
    obtain ⟨q, f, A1, n1, c1, A2, n2, c2, P, C, hM, hn1, hn2, hq, HA, hb⟩ := hrel
    have hit := hM.it
    have Hpos := Lib.hid (iterPos_of hit)
    by_cases hp : q < s.size
    · obtain ⟨⟨R, W⟩, HDc⟩ : ∃ d, Utf8.decode s q = d := ⟨_, rfl⟩
      have hd := dec_bd s q hp
      have hnx : ∀ ty, (Instr.next (.pointer (some ⟨w1.heap.size + 1, 0, none⟩)) true ty).run Tryz.prog wr = _ := fun ty => Lib.run_next_any_at wr (w1.heap.size + 1) s q ty hit hp
      have hM2 := hM.iterAt (q + (Utf8.decode s q).2)
      have hb2 := Lib.below_iterAt hb (k := w1.heap.size + 1) (by omega) s (q + (Utf8.decode s q).2)
      rw [HDc] at hd hnx hM2 hb2
      simp only at hd hnx hM2 hb2
      obtain ⟨g, HA'⟩ := scAt_add HA.out hp HDc (by omega)
      have HA' := Lib.hid HA'
      clear HA HDc hM hb hit
      generalize wr.iterAt (w1.heap.size + 1) s (q + W) = w2 at hnx hM2 hb2
      have k0 := hM2.blk.cell 0
      simp only [List.getElem?_toArray, List.getElem?_cons_zero] at k0
      have hsz2 := hM2.lt.2.2.2.2.2
      go_upto_region 7 with (at_builtin; go_must (refine wpList_app rfl (.tmp 21) (.tmp 23) _ rfl (w1.heap.size + 2) 3 i0 _ 1 8 Tryz.underlying25 hi0 hz0 hz1 hz2 rfl (by omega) A1 n1 c1 (P.map encN) rfl (hM2.o1.alloc _) _ 1 1 [encN q] rfl rfl (Rd.newAt (by simp) rfl) (encN_ok [q]) (by unfold maxLen; omega) (by omega) (by simp; omega) ?_); intro A3 c3 w3 ho3 hg3 hA3; have HM := hM2.more1 (x := q) (by rw [List.map_append]; exact ho3) hg3 hA3; have k3 := HM.1.cell 0; have f3 := HM.1.frozen 0; simp only [List.getElem?_toArray, List.getElem?_cons_zero] at k3)
      have hM5 := HM.2.1
      have hb5 := HM.2.2 _ hb2
      clear HM k3 f3 hg3 ho3 hA3 hM2 hb2 hnx k0
      generalize w3.setCell ⟨w1.heap.size, 0, none⟩ (.slice A3 (n1 + 1) c3) = w5 at hM5 hb5 ⊢
      have k5 := hM5.blk.cell 1
      simp only [List.getElem?_toArray, List.getElem?_cons_zero, List.getElem?_cons_succ] at k5
      have HG := Lib.hid (wGet_any p linesD R w5.drew ((HD.out.below hb5).drewN 1) linesOk.1 linesOk.2.1)
      have hsz5 := hM5.lt.2.2.2.2.2
      go_wp2_with fail
      refine wp_region_last (S := fun V => V.cell? ⟨w1.heap.size, 1, none⟩ = some (.slice A2 n2 c2)) 8 rfl (by kernel_rfl) (by kernel_rfl) (by kernel_rfl) k5 (fun hHeld => ?_)
      simp only [List.dropLast_cons_cons, List.dropLast_singleton]
      refine wpAnyH_take (i := 0) (v := ?_) rfl (by kernel_rfl) (by kernel_rfl) (by kernel_rfl) (fun _ _ _ h => h) (Or.inl ⟨by rfl, ?_⟩) (by assumption) ?_; rotate_left; focus ((intro w hSw; (try dsimp only at hSw); go_simp); try with_reducible rfl)
      (try simp only [Act.put, List.getElem_toArray, List.getElem_cons_zero, List.setIfInBounds_toArray, List.set_cons_zero, List.set_cons_succ])
      refine wpAnyH_take (i := 1) (v := ?_) rfl (by kernel_rfl) (by kernel_rfl) (by kernel_rfl) (fun _ _ _ h => h) (Or.inl ⟨by rfl, ?_⟩) (by assumption) ?_; rotate_left; focus ((intro w hSw; (try dsimp only at hSw); go_simp); try with_reducible rfl)
      (try simp only [Act.put, List.getElem_toArray, List.getElem_cons_succ, List.getElem_cons_zero, List.setIfInBounds_toArray, List.set_cons_zero, List.set_cons_succ])
      refine wpAnyH_take (i := 2) (v := ?_) rfl (by kernel_rfl) (by kernel_rfl) (by kernel_rfl) (fun _ _ _ h => h) (Or.inl ⟨by rfl, ?_⟩) (by assumption) ?_; rotate_left; focus ((intro w hSw; (try dsimp only at hSw); go_simp); try with_reducible rfl)
      (try simp only [Act.put, List.getElem_toArray, List.getElem_cons_succ, List.getElem_cons_zero, List.setIfInBounds_toArray, List.set_cons_zero, List.set_cons_succ])
      refine wpAnyH_take (i := 3) (v := ?_) rfl (by kernel_rfl) (by kernel_rfl) (by kernel_rfl) (fun _ _ _ h => h) (Or.inl ⟨by rfl, ?_⟩) (by assumption) ?_; rotate_left; focus ((intro w hSw; (try dsimp only at hSw); go_simp); try with_reducible rfl)
      (try simp only [Act.put, List.getElem_toArray, List.getElem_cons_succ, List.getElem_cons_zero, List.setIfInBounds_toArray, List.set_cons_zero, List.set_cons_succ])
      refine wpAnyH_ready (rs := [4]) (by kernel_rfl) (by simp) ?_
      refine AllReadyH.cons rfl (fun K hK => ?_) AllReadyH.nil
      go_simp
      refine HG.out.mono ?_
      rintro e wz ⟨rfl, hbz⟩
      have hMz := (hM5.below (w' := w5.drew) (Below.refl _ _).drew).below hbz
      have hbbz := below_step (below_drewN hb5 1) hbz hb5.size
      have kz := hMz.blk.cell 1
      simp only [List.getElem?_toArray, List.getElem?_cons_zero, List.getElem?_cons_succ] at kz
      have hszz := hMz.lt.2.2.2.2.2
      refine hK.out _ _ kz (fun hHeld => ?_)
      clear hK K
      refine wpAnyH_ready (rs := [5]) (by kernel_rfl) (by simp) ?_
      refine AllReadyH.cons rfl (fun K hK => ?_) AllReadyH.nil
      go_simp
      refine hK.out _ _ (cell_keep kz ((Below.refl _ _).alloc (Nat.le_refl _) _)) (fun hHeld => ?_)
      clear hK K
      refine wpAnyH_ready (rs := [6]) (by kernel_rfl) (by simp) ?_
      refine AllReadyH.cons rfl (fun K hK => ?_) AllReadyH.nil
      refine step_app rfl (.tmp 27) (.tmp 31) _ rfl (w1.heap.size + 2) 3 i0 _ 1 8 Tryz.underlying25 hi0 hz0 hz1 hz2 rfl (by omega) A2 n2 c2 (C.map encZ) rfl (hMz.o2.alloc _) _ 1 1 [encZ (gL R : Int)] rfl rfl (Rd.newAt (by simp) rfl) (encZ_ok [(gL R : Int)]) (by unfold maxLen; omega) (by omega) (by simp; omega) ?_
      intro A4 c4 w4 ho4 hg4 hA4
      have HM := hMz.more2 (x := (gL R : Int)) (by rw [List.map_append]; exact ho4) hg4 hA4
      have k4 := HM.1.cell 1
      have f4 := HM.1.frozen 1
      simp only [List.getElem?_toArray, List.getElem?_cons_zero, List.getElem?_cons_succ] at k4
      refine hK.out _ _ k4 (fun hHeld => ?_)
      clear hK K
      refine wpAnyH_take (i := 7) (v := ?_) rfl (by kernel_rfl) (by kernel_rfl) (by kernel_rfl) (fun _ _ _ h => h) (Or.inl ⟨by rfl, ?_⟩) (by assumption) ?_; rotate_left; focus ((intro w hSw; (try dsimp only at hSw); go_simp); try with_reducible rfl)
      (try simp only [Act.put, List.getElem_toArray, List.getElem_cons_succ, List.getElem_cons_zero, List.setIfInBounds_toArray, List.set_cons_zero, List.set_cons_succ])
      refine wpAnyH_done (by kernel_rfl) ?_ _
      refine tailQ_end (wpOp_step (i := 8) rfl (fun K hK => ?_))
      go_simp
      refine hK _ _ ?_
      clear hK K
      have hM6 := HM.2.1
      have hb6 := HM.2.2 _ hbbz
      go_wp2
      go_roundw
      case rel => exact ⟨q + W, g, _, _, _, _, _, _, P ++ [q], C ++ [(gL R : Int)], hM6, by omega, by omega, by omega, HA', hb6⟩
      case measure => rw [iterPos_of hM6.it, Hpos.out]; omega
    · have hnx : ∀ ty, (Instr.next (.pointer (some ⟨w1.heap.size + 1, 0, none⟩)) true ty).run Tryz.prog wr = _ := fun ty => Lib.run_next_end_at wr (w1.heap.size + 1) s q ty hit hp
      have HE := Lib.hid (scAt_endL HA.out hp)
      have hRr := hR1.below hb
      have k0 := hM.blk.cell 0
      have k1 := hM.blk.cell 1
      have r0 := hRr.cell 0
      have r1 := hRr.cell 1
      have g0 := hRr.frozen 0
      have g1 := hRr.frozen 1
      simp only [List.getElem?_toArray, List.getElem?_cons_zero, List.getElem?_cons_succ] at k0 k1 r0 r1
      go_wp2
      have hl1 : ∀ a, A1 = some a → a.block ≠ w.heap.size := fun a ha => by have := (hM.o1.lt a ha).1; omega
      have hl2 : ∀ a, A2 = some a → a.block ≠ w.heap.size := fun a ha => by have := (hM.o2.lt a ha).1; omega
      have hBk := ((hRr.set_ 0 (.slice A1 n1 c1)).set_ 1 (.slice A2 n2 c2))
      have ho1 := (((hM.o1.setCell (p := ⟨w.heap.size, 0, none⟩) hl1 (.slice A1 n1 c1)).setCell (p := ⟨w.heap.size, 1, none⟩) hl1 (.slice A2 n2 c2)).more (b' := w.heap.size) (by omega))
      have ho2 := (((hM.o2.setCell (p := ⟨w.heap.size, 0, none⟩) hl2 (.slice A1 n1 c1)).setCell (p := ⟨w.heap.size, 1, none⟩) hl2 (.slice A2 n2 c2)).more (b' := w.heap.size) (by omega))
      have hbb := (((below_step hB1 hb hB1.size).setCell (p := ⟨w.heap.size, 0, none⟩) (Nat.le_refl _) (.slice A1 n1 c1)).setCell (p := ⟨w.heap.size, 1, none⟩) (Nat.le_refl _) (.slice A2 n2 c2))
      rw [HE.out.1] at ho1
      rw [HE.out.2] at ho2
      refine bodyPost_ret (res_tscan _ w.heap.size _ rfl (by simpa using hBk)) rfl ?_
      exact ⟨_, _, _, _, _, _, rfl, ho1, ho2, hbb⟩
end Go.Proofs.YtlbfbkdcjdeagaaGreatDoor

