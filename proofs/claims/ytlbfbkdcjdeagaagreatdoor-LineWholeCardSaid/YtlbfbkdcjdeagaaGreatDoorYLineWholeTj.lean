/-
  kerflaw14.LineWhole, walked. Printed by gen_lwhole.py.
-/
import Derived.Test.YtlbfbkdcjdeagaaGreatDoorYLineWhole3a
import Derived.Test.YtlbfbkdcjdeagaaGreatDoorYLineWholeTr
import Derived.Test.YtlbfbkdcjdeagaaGreatDoorYLineWhole0c
namespace Go.Proofs.YtlbfbkdcjdeagaaGreatDoor
open Go.RowKit Go.Shelf
attribute [local go_sem] Oper.semAt_some

theorem res_whole (w : World) (b : Nat) (tmps : Array Value) (ht : tmps.getD 2 undef = .pointer (some ⟨b, 0, none⟩)) {v : Bool} (hc : w.cell? ⟨b, 0, none⟩ = some (.bool v)) : (results Tryz.f12 tmps).run Tryz.prog w = .ok (.bool v) w := by
  have ht' : tmps[2]?.getD undef = .pointer (some ⟨b, 0, none⟩) := by simpa [Array.getD_eq_getD_getElem?] using ht
  simp [results, Tryz.results12, go_sem, ht', hc]
theorem seqII_nil (fn : Fn) (first captured : Array Value) (W : World) : (binOp .eql 51 (.func fn first captured) .nilFunc).run Tryz.prog W = .ok (.bool false) W := by kernel_rfl
theorem blk_put {V : World} {D : Nat} {o : Obj} {k : Nat} {t : TypeId} {cs : Array Value} (h : Blk V k t cs) (hne : k ≠ D) : Blk (V.putObj D o) k t cs := (World.putObj_heap_other hne).trans h
theorem named_is (r : Int) : ((bytesOf (nmL r)).toList == [66, 107]) = decide (gL r = 1) ∧ ((bytesOf (nmL r)).toList == [76, 102]) = decide (gL r = 3) ∧ ((bytesOf (nmL r)).toList == [67, 114]) = decide (gL r = 2) := by
  have hlt : gL r < linesD.names.length := by rw [names_len]; exact gL_lt _
  rw [ByteArray.toList_eq, bytesOf_list]
  have : ∀ k : Nat, k < 26 → ∀ nm ∈ linesD.names[k]?, (nm == [66, 107]) = decide (k = 1) ∧ (nm == [76, 102]) = decide (k = 3) ∧ (nm == [67, 114]) = decide (k = 2) := by decide
  refine this (gL r) (gL_lt r) _ ?_
  unfold nmL
  rw [List.getElem?_eq_getElem hlt]; rfl
theorem map_cl {s : ByteArray} {l : List (Nat × Nat)} (h : ∀ x ∈ l, x ∈ linesP gL s) : l.map (clP s) = l := by
  have : ∀ x ∈ l, clP s x = id x := fun x hx => by
    obtain ⟨h1, h2, _⟩ := lines_in (h x hx)
    exact clP_in ⟨Nat.le_of_lt h1, h2⟩
  rw [List.map_congr_left this, List.map_id]
set_option maxRecDepth 100000 in
set_option maxHeartbeats 16000000 in
theorem yLineWhole_any (s : ByteArray) (w : World) (hE : Env w) (hs : s.size ≤ 140737488355328) :
    Calls Tryz.prog 12 #[.string s] w fun e w' => e = .returned (.bool true) ∧ Below w.heap.size w w' := by
  have hA1 : Below w.heap.size w (w.alloc (.cells #[.string s] 9)) := (Below.refl _ _).alloc (Nat.le_refl _) _
  have hA2 := hA1.alloc hA1.size (.cells #[.bool false] 4)
  have B1 : Blk ((w.alloc (.cells #[.string s] 9)).alloc (.cells #[.bool false] 4)) w.heap.size 9 #[.string s] := (Blk.new w 9 #[.string s]).alloc _
  have B2 : Blk ((w.alloc (.cells #[.string s] 9)).alloc (.cells #[.bool false] 4)) (w.heap.size + 1) 4 #[.bool false] := by
    have := Blk.new (w.alloc (.cells #[.string s] 9)) 4 #[.bool false]
    rw [World.size_alloc] at this
    exact this
  have HLv := Lib.hid (fun W (h : Env W) => ylive_any W h)
  have c1 := B1.cell 0
  simp only [List.getElem?_toArray, List.getElem?_cons_zero] at c1
  clear hA1
  refine (callsIn_wide (n := 8)).1 ?_
  refine callsIn_of_wp_marks Tryz.func12 rfl trivial ?_ rfl
  simp only [Tryz.ntmps12, List.size_toArray, List.length_cons, List.length_nil, Nat.reduceAdd, Nat.reduceSub, Array.replicate_succ, Array.replicate_zero, List.push_toArray, List.append_toArray, List.nil_append, List.cons_append]
  refine wpIn_wide.2 ?_
  by_cases h1 : 60 < s.size
  · have g1 : (60 : Int) < (s.size : Int) := by omega
    go_wp2_with fail
    generalize ((w.alloc (.cells #[.string s] 9)).alloc (.cells #[.bool false] 4)) = w0 at hA2 B1 B2 c1 ⊢
    refine (HLv.out _ (hE.below hA2)).mono ?_
    rintro e w1 ⟨rfl, hb⟩
    have C2 := B2.below hb
    have e2 := C2.cell 0
    have f2 := C2.frozen 0
    simp only [List.getElem?_toArray, List.getElem?_cons_zero] at e2
    have hbb := below_two hA2 hb
    go_wp2
    exact ⟨_, res_whole _ (w.heap.size + 1) _ rfl ((C2.set_ 0 (.bool true)).cell 0), rfl, hbb.setCell (p := ⟨w.heap.size + 1, 0, none⟩) (by simp) _⟩
  have g1 : ¬ (60 : Int) < (s.size : Int) := by omega
  have hsz : s.size ≤ 60 := by omega
  have hsq := fun (fn : Fn) (a b : Array Value) W => seqII_nil fn a b W
  have HD := Lib.hid (fun W => xDb_any W)
  have hln : (linesP gL s).length ≤ 61 := Nat.le_trans (linP_len _ 0) (by have := chances_len' s; omega)
  clear h1 hs
  go_wp2_with fail
  generalize ((w.alloc (.cells #[.string s] 9)).alloc (.cells #[.bool false] 4)) = w0 at hA2 B1 B2 c1 ⊢
  refine (tLines_any s w0).mono ?_
  rintro e w1 ⟨bs, rfl, hc, hb1⟩
  go_wp2_with fail
  refine (HD.out w1).mono ?_
  rintro e w2 ⟨p, x, rfl, hd, hb2⟩
  have hbD : Below w1.heap.size w1 (w2.alloc (.cells #[.pointer (some ⟨p, 0, none⟩)] 29)) := hb2.alloc hb2.size _
  have B4 : Blk (w2.alloc (.cells #[.pointer (some ⟨p, 0, none⟩)] 29)) w2.heap.size 29 #[.pointer (some ⟨p, 0, none⟩)] := Blk.new _ _ _
  have B5 : Blk ((w2.alloc (.cells #[.pointer (some ⟨p, 0, none⟩)] 29)).alloc (.cells #[.int .i64 0] 3)) (w2.heap.size + 1) 3 #[.int .i64 0] := by
    have := Blk.new (w2.alloc (.cells #[.pointer (some ⟨p, 0, none⟩)] 29)) 3 #[.int .i64 0]
    rw [World.size_alloc] at this
    exact this
  have hdD := hd.below ((Below.refl w2.heap.size w2).alloc (Nat.le_refl _) (.cells #[.pointer (some ⟨p, 0, none⟩)] 29))
  have hbE : Below (w2.alloc (.cells #[.pointer (some ⟨p, 0, none⟩)] 29)).heap.size (w2.alloc (.cells #[.pointer (some ⟨p, 0, none⟩)] 29)) ((w2.alloc (.cells #[.pointer (some ⟨p, 0, none⟩)] 29)).alloc (.cells #[.int .i64 0] 3)) := (Below.refl _ _).alloc (Nat.le_refl _) _
  have hzD : (w2.alloc (.cells #[.pointer (some ⟨p, 0, none⟩)] 29)).heap.size = w2.heap.size + 1 := by simp
  go_wp2_with fail
  generalize ((w2.alloc (.cells #[.pointer (some ⟨p, 0, none⟩)] 29)).alloc (.cells #[.int .i64 0] 3)) = wE at B5 hbE ⊢
  generalize (w2.alloc (.cells #[.pointer (some ⟨p, 0, none⟩)] 29)) = wD at hbD B4 hdD hbE hzD
  have hw1 := below_two hA2 hb1
  have hwD := below_step hw1 hbD hw1.size
  have hwE := below_step hwD hbE hwD.size
  have C1 : Blk wD w.heap.size 9 #[.string s] := (B1.below hb1).below hbD
  have C2 : Blk wD (w.heap.size + 1) 4 #[.bool false] := (B2.below hb1).below hbD
  have hcE : wE.cell? ⟨bs, 0, none⟩ = some (.string s) := cell_keep (cell_keep hc hbD) hbE
  have hz5 := B5.lt
  have hz2 := C2.lt
  have hE5 := hE.below hwE
  have hED := hE.below hwD
  generalize w2.heap.size = b4 at B4 B5 hzD hz5 ⊢
  clear hc B1 B2 hA2 hb1 hb2 hbD hd hE hw1 c1
  refine (wpIn_wide (n := 8)).1 ?_
  refine rngH rfl (by decide) (gf := 74) (lb := #[.pointer (some ⟨bs, 0, none⟩)]) rfl trivial (enters_of Tryz.func74 (by kernel_rfl) rfl)
    (tLines_seq 7 (by decide) wE s bs hE5 (by omega) hcE) (fun h k => h.trans k) (fun W l o o' _ h hc _ => KT.put W l o o' h hc) (Below.refl _ _) (fun _ => rfl) (fun W => KT.refl _ _ W)
    (fun (pre : List (Nat × Nat)) W => Blk W (b4 + 1) 3 #[.int .i64 (lastP 0 (pre.map (clP s)) : Nat)] ∧ Below wD.heap.size wD W)
    (fun cc pre _ => cc = .ret ∧ ¬ pre <+: linesP gL s)
    (OwnFrom.and (Go.Own.from (fun s A B row hs hg hr => hs.kept hg hr) _) (ownFrom_below (Nat.le_refl _) hbE.size))
    (fun _ _ _ _ _ hs _ _ => hs) ⟨B5, hbE⟩
    (fun T (x : Nat × Nat) => (((T.setIfInBounds 22 (.int .i64 ((clP s x).1 : Nat))).setIfInBounds 23 (.int .i64 ((clP s x).2 : Nat))).setIfInBounds 6 (.int .i64 ((clP s x).1 : Nat))).setIfInBounds 7 (.int .i64 ((clP s x).2 : Nat))) ?assign ?body ?done ?stop
  case assign =>
    intro l2 x V K hK
    simp only [List.setIfInBounds_toArray, List.set_cons_succ, List.set_cons_zero] at hK
    simp only [encLn]
    gi_wp2
    exact hK
  case stop =>
    rintro D cc pre W hD hp ⟨rfl, hnp⟩ hK
    exact absurd hp hnp
  case done =>
    rintro D ys V hD hys ⟨B, hbV⟩ hK
    subst hys
    rw [map_cl (fun x h => h), lines_end] at B
    have c5 := B.cell 0
    have c1 := (C1.below hbV).cell 0
    have hwV := below_step hwD hbV hwD.size
    simp only [List.getElem?_toArray, List.getElem?_cons_zero] at c5 c1
    go_wp2_with fail
    refine (HLv.out _ (hED.below hbV)).mono ?_
    rintro e w9 ⟨rfl, hb9⟩
    have D2 := (C2.below hbV).below hb9
    have e2 := D2.cell 0
    have f2 := D2.frozen 0
    simp only [List.getElem?_toArray, List.getElem?_cons_zero] at e2
    have hw9 := below_step hwV hb9 hwV.size
    have hK9 := (hb9.block D (Array.getElem?_eq_some_iff.1 hK).1).trans hK
    go_wp2
    have hK3 := (Below.heap_setCell w9 ⟨w.heap.size + 1, 0, none⟩ (.bool true) D (by simp only; omega)).trans hK9
    refine ⟨by simp, .inl ⟨_, _, rfl, run_takeDeferred hK3, ?_⟩⟩
    exact ⟨_, res_whole _ (w.heap.size + 1) _ rfl ((blk_put (D := D) (o := .deferred none) (D2.set_ 0 (.bool true)) (by omega)).cell 0), rfl, (hw9.setCell (p := ⟨w.heap.size + 1, 0, none⟩) (by simp) _).trans (belowK_b (w := w) (Nat.le_refl _) _ D _ _ (by omega) hK3 rfl rfl)⟩
  case body =>
    rintro l2 pre x W hl2 _ ⟨B, hbW⟩ hlen
    simp only [List.setIfInBounds_toArray, List.set_cons_succ, List.set_cons_zero]
    have hcx := clP_le s x
    have hcl : (linesP gL s).length = (linesP gL s).length := rfl
    obtain ⟨⟨a, b⟩, hab⟩ : ∃ z, clP s x = z := ⟨_, rfl⟩
    have HPre : Hid (pre ++ [x] <+: linesP gL s → lastP 0 (pre.map (clP s)) = a ∧ a < b ∧ ∀ (i : Nat) (p q : Int), (lCls gL (s.extract a b))[i]? = some p → (lCls gL (s.extract a b))[i + 1]? = some q → p ≠ 1 ∧ p ≠ 3 ∧ (p = 2 → q = 3 ∧ i + 2 = (lCls gL (s.extract a b)).length)) := Lib.hid (fun hp => by
      have hm : ∀ y ∈ pre ++ [x], y ∈ linesP gL s := fun y hy => hp.subset hy
      have hn := linP_next _ 0 pre x hp
      rw [map_cl (fun y hy => hm y (by simp [hy]))]
      obtain ⟨h1, h2, h3⟩ := lines_in (hm x (by simp))
      have e : x = (a, b) := by rw [← hab]; exact (clP_in ⟨Nat.le_of_lt h1, h2⟩).symm
      subst e
      exact ⟨hn.symm, h1, h3⟩)
    have HSn : Hid (lastP 0 ((pre ++ [x]).map (clP s)) = b) := Lib.hid (by rw [List.map_append, List.map_cons, List.map_nil, lastP_snoc, hab])
    rw [hab] at hcx ⊢
    simp only at hcx ⊢
    obtain ⟨z0, hz0⟩ : ∃ z, lastP 0 (pre.map (clP s)) = z := ⟨_, rfl⟩
    rw [hz0] at B HPre
    have c5 := B.cell 0
    have f5 := B.frozen 0
    have c1 := (C1.below hbW).cell 0
    have D2 := C2.below hbW
    have e2 := D2.cell 0
    have f2 := D2.frozen 0
    simp only [List.getElem?_toArray, List.getElem?_cons_zero] at c5 c1 e2
    clear hz0 hab hcl hlen
    by_cases hfa : a = z0
    · have q1 : ((a : Int) != (z0 : Int)) = false := by rw [hfa]; simp
      by_cases hlt : a < b
      · have q2 : ¬ (b : Int) ≤ (a : Int) := by omega
        have ha0 : (0 : Int) ≤ (a : Int) := by omega
        have ha1 : (a : Int) ≤ (b : Int) := by omega
        have ha2 : (b : Int) ≤ (s.size : Int) := by omega
        have hes : (s.extract a b).size ≤ 60 := by rw [ByteArray.size_extract]; omega
        have HR := Lib.hid (fun W => sRunes_any (s.extract a b) W (by omega))
        obtain ⟨X, HX⟩ : ∃ L, Hid (runesP (s.extract a b) = L) := ⟨_, Lib.hid rfl⟩
        have hXz : X.length ≤ 60 := by rw [← HX.out]; exact Nat.le_trans (runesP_len _) hes
        have HCl : Hid (lCls gL (s.extract a b) = X.map fun y => (gL y.1 : Int)) := Lib.hid (by unfold lCls; rw [HX.out])
        rw [HCl.out] at HPre
        rw [HX.out] at HR
        have HPre2 := Lib.hid (fun hp => (HPre.out hp).2.2)
        clear hfa HPre e2 f2 HX HCl
        gi_wp2_with fail
        refine ⟨trivial, ?_⟩
        refine (CallsIn.inRound l2 (callsIn_wide.2 (HR.out W))).mono ?_
        rintro e w3 ⟨A, m, c, rfl, ho, hb3⟩
        have hm : X.length = m := by have := ho.len; simpa using this
        have Hm := Lib.hid hm
        have hmz : m ≤ 60 := by omega
        clear hm HR
        gi_wp2_with fail
        gi_loopw [9] (fun v wr => ∃ i : Nat, v = .int .i64 i ∧ (i = 0 ∨ i + 1 ≤ m) ∧ Below w3.heap.size w3 wr) (fun v _ => m - (intOf v).toNat)
        case atStart => exact ⟨0, rfl, .inl rfl, Below.refl _ _⟩
        case round =>
          obtain ⟨i, rfl, hi, hb3r⟩ := hrel
          have hbr := below_step hb3 hb3r hb3.size
          have hbn := below_step hbW hbr hbW.size
          obtain ⟨j, hj⟩ : ∃ j, i + 1 = j := ⟨_, rfl⟩
          have e1 : (i : Int) + 1 = (j : Int) := by omega
          have e6 : IntKind.i64.wrap (j : Int) = (j : Int) := IntWalk.i64_in _ (by omega)
          by_cases hlj : j < m
          · obtain ⟨⟨R1, r1a, r1b⟩, Hx1⟩ : ∃ x, Hid (X[i]? = some x) := ⟨_, Lib.hid (List.getElem?_eq_getElem (by have := Hm.out; omega))⟩
            obtain ⟨⟨R2, r2a, r2b⟩, Hx2⟩ : ∃ x, Hid (X[j]? = some x) := ⟨_, Lib.hid (List.getElem?_eq_getElem (by have := Hm.out; omega))⟩
            have rd := (ho.below hb3r).rd (by decide)
            obtain ⟨bk, off, rfl, x1, _, _⟩ := rd.atRn Hx1.out
            obtain ⟨bk', off', e9, x2, _, _⟩ := rd.atRn Hx2.out
            injection e9 with e9
            injection e9 with e9 e10
            subst e9 e10
            simp only at x1 x2
            have d4 := (B4.below hbn).cell 0
            simp only [List.getElem?_toArray, List.getElem?_cons_zero] at d4
            have hii : i < m := by omega
            have hi0 : (0 : Int) ≤ (i : Int) := by omega
            have hj0 : (0 : Int) ≤ (j : Int) := by omega
            obtain ⟨hn1, hn2, hn3⟩ := named_is (R1 : Int)
            obtain ⟨_, hm2, _⟩ := named_is (R2 : Int)
            have HN1 := Lib.hid (fun V (h : Below wD.heap.size wD V) => xNamed_any _ p _ (R1 : Int) V (hdD.below h))
            have HN2 := Lib.hid (fun V (h : Below wD.heap.size wD V) => xNamed_any _ p _ (R2 : Int) V (hdD.below h))
            have hbad : (gL (R1 : Int) = 1 ∨ gL (R1 : Int) = 3 ∨ (gL (R1 : Int) = 2 ∧ ¬ (gL (R2 : Int) = 3 ∧ j + 1 = m))) → ¬ pre ++ [x] <+: linesP gL s := fun hb hp => by
              obtain ⟨k1, k2, k3⟩ := HPre2.out hp i (gL (R1 : Int) : Nat) (gL (R2 : Int) : Nat) (by rw [List.getElem?_map, Hx1.out]; rfl) (by rw [hj, List.getElem?_map, Hx2.out]; rfl)
              rw [List.length_map, Hm.out] at k3
              rcases hb with hb | hb | ⟨hb, hb2⟩
              · omega
              · omega
              · have := k3 (by omega)
                exact hb2 ⟨by omega, by omega⟩
            obtain ⟨t1, ht1⟩ : ∃ t, decide (gL (R1 : Int) = 1) = t := ⟨_, rfl⟩
            obtain ⟨t2, ht2⟩ : ∃ t, decide (gL (R1 : Int) = 3) = t := ⟨_, rfl⟩
            obtain ⟨t3, ht3⟩ : ∃ t, decide (gL (R1 : Int) = 2) = t := ⟨_, rfl⟩
            obtain ⟨c3, hc3⟩ : ∃ t, decide (gL (R2 : Int) = 3) = t := ⟨_, rfl⟩
            have HBad : Hid ((t1 = true ∨ t2 = true ∨ (t3 = true ∧ ¬ (c3 = true ∧ j + 1 = m))) → ¬ pre ++ [x] <+: linesP gL s) := Lib.hid (fun h => hbad (by
              rw [← ht1, ← ht2, ← ht3, ← hc3] at h
              simpa using h))
            rw [ht1] at hn1
            rw [ht2] at hn2
            rw [ht3] at hn3
            rw [hc3] at hm2
            generalize nmL (R1 : Int) = nm1 at hn1 hn2 hn3 HN1
            generalize nmL (R2 : Int) = nm2 at hm2 HN2
            have Hj := Lib.hid hj
            clear hbad ht1 ht2 ht3 hc3 rd Hx1 Hx2 hj
            gi_wp2_with fail
            refine wpIn_region_round (S := fun V => V.cell? ⟨b4, 0, none⟩ = some (.pointer (some ⟨p, 0, none⟩)) ∧ V.cell? ⟨bk, off + i * 3, none⟩ = some (.int .i32 (R1 : Nat)) ∧ V.cell? ⟨bk, off + j * 3, none⟩ = some (.int .i32 (R2 : Nat)) ∧ Below wr.heap.size wr V) (by kernel_rfl) (by kernel_rfl) (fun h => by obtain ⟨_, _, h⟩ := h; exact h) ⟨d4, x1, x2, (Below.refl _ _).drew⟩ (fun hHeld => ?_)
            refine wpAnyH_take (i := 0) (v := ?_) rfl (by kernel_rfl) (by kernel_rfl) (by kernel_rfl) (fun _ _ _ h => h) (Or.inl ⟨by rfl, ?_⟩) (by assumption) ?_; rotate_left; focus ((intro w hSw; (try dsimp only at hSw); go_simp); try with_reducible rfl)
            (try simp only [Act.put, List.getElem_toArray, List.getElem_cons_zero, List.setIfInBounds_toArray, List.set_cons_zero, List.set_cons_succ])
            refine wpAnyH_take (i := 1) (v := ?_) rfl (by kernel_rfl) (by kernel_rfl) (by kernel_rfl) (fun _ _ _ h => h) (Or.inl ⟨by rfl, ?_⟩) (by assumption) ?_; rotate_left; focus ((intro w hSw; (try dsimp only at hSw); go_simp); try with_reducible rfl)
            (try simp only [Act.put, List.getElem_toArray, List.getElem_cons_succ, List.getElem_cons_zero, List.setIfInBounds_toArray, List.set_cons_zero, List.set_cons_succ])
            refine wpAnyH_take (i := 2) (v := ?_) rfl (by kernel_rfl) (by kernel_rfl) (by kernel_rfl) (fun _ _ _ h => h) (Or.inl ⟨by rfl, ?_⟩) (by assumption) ?_; rotate_left; focus ((intro w hSw; (try dsimp only at hSw); go_simp); try with_reducible rfl)
            (try simp only [Act.put, List.getElem_toArray, List.getElem_cons_succ, List.getElem_cons_zero, List.setIfInBounds_toArray, List.set_cons_zero, List.set_cons_succ])
            refine wpAnyH_take (i := 3) (v := ?_) rfl (by kernel_rfl) (by kernel_rfl) (by kernel_rfl) (fun _ _ _ h => h) (Or.inl ⟨by rfl, ?_⟩) (by assumption) ?_; rotate_left; focus ((intro w hSw; (try dsimp only at hSw); go_simp); try with_reducible rfl)
            (try simp only [Act.put, List.getElem_toArray, List.getElem_cons_succ, List.getElem_cons_zero, List.setIfInBounds_toArray, List.set_cons_zero, List.set_cons_succ])
            refine wpAnyH_take (i := 4) (v := ?_) rfl (by kernel_rfl) (by kernel_rfl) (by kernel_rfl) (fun _ _ _ h => h) (Or.inl ⟨by rfl, ?_⟩) (by assumption) ?_; rotate_left; focus ((intro w hSw; (try dsimp only at hSw); go_simp); try with_reducible rfl)
            (try simp only [Act.put, List.getElem_toArray, List.getElem_cons_succ, List.getElem_cons_zero, List.setIfInBounds_toArray, List.set_cons_zero, List.set_cons_succ])
            refine wpAnyH_take (i := 5) (v := ?_) rfl (by kernel_rfl) (by kernel_rfl) (by kernel_rfl) (fun _ _ _ h => h) (Or.inl ⟨by rfl, ?_⟩) (by assumption) ?_; rotate_left; focus ((intro w hSw; (try dsimp only at hSw); go_simp); try with_reducible rfl)
            (try simp only [Act.put, List.getElem_toArray, List.getElem_cons_succ, List.getElem_cons_zero, List.setIfInBounds_toArray, List.set_cons_zero, List.set_cons_succ])
            refine wpAnyH_take (i := 7) (v := ?_) rfl (by kernel_rfl) (by kernel_rfl) (by kernel_rfl) (fun _ _ _ h => h) (Or.inl ⟨by rfl, ?_⟩) (by assumption) ?_; rotate_left; focus ((intro w hSw; (try dsimp only at hSw); go_simp); try with_reducible rfl)
            (try simp only [Act.put, List.getElem_toArray, List.getElem_cons_succ, List.getElem_cons_zero, List.setIfInBounds_toArray, List.set_cons_zero, List.set_cons_succ])
            refine wpAnyH_take (i := 8) (v := ?_) rfl (by kernel_rfl) (by kernel_rfl) (by kernel_rfl) (fun _ _ _ h => h) (Or.inl ⟨by rfl, ?_⟩) (by assumption) ?_; rotate_left; focus ((intro w hSw; (try dsimp only at hSw); go_simp); try with_reducible rfl)
            (try simp only [Act.put, List.getElem_toArray, List.getElem_cons_succ, List.getElem_cons_zero, List.setIfInBounds_toArray, List.set_cons_zero, List.set_cons_succ])
            refine wpAnyH_take (i := 9) (v := ?_) rfl (by kernel_rfl) (by kernel_rfl) (by kernel_rfl) (fun _ _ _ h => h) (Or.inl ⟨by rfl, ?_⟩) (by assumption) ?_; rotate_left; focus ((intro w hSw; (try dsimp only at hSw); go_simp); try with_reducible rfl)
            (try simp only [Act.put, List.getElem_toArray, List.getElem_cons_succ, List.getElem_cons_zero, List.setIfInBounds_toArray, List.set_cons_zero, List.set_cons_succ])
            refine wpAnyH_take (i := 10) (v := ?_) rfl (by kernel_rfl) (by kernel_rfl) (by kernel_rfl) (fun _ _ _ h => h) (Or.inl ⟨by rfl, ?_⟩) (by assumption) ?_; rotate_left; focus ((intro w hSw; (try dsimp only at hSw); go_simp); try with_reducible rfl)
            (try simp only [Act.put, List.getElem_toArray, List.getElem_cons_succ, List.getElem_cons_zero, List.setIfInBounds_toArray, List.set_cons_zero, List.set_cons_succ])
            refine wpAnyH_take (i := 11) (v := ?_) rfl (by kernel_rfl) (by kernel_rfl) (by kernel_rfl) (fun _ _ _ h => h) (Or.inl ⟨by rfl, ?_⟩) (by assumption) ?_; rotate_left; focus ((intro w hSw; (try dsimp only at hSw); go_simp); try with_reducible rfl)
            (try simp only [Act.put, List.getElem_toArray, List.getElem_cons_succ, List.getElem_cons_zero, List.setIfInBounds_toArray, List.set_cons_zero, List.set_cons_succ])
            refine wpAnyH_take (i := 12) (v := ?_) rfl (by kernel_rfl) (by kernel_rfl) (by kernel_rfl) (fun _ _ _ h => h) (Or.inl ⟨by rfl, ?_⟩) (by assumption) ?_; rotate_left; focus ((intro w hSw; (try dsimp only at hSw); go_simp); try with_reducible rfl)
            (try simp only [Act.put, List.getElem_toArray, List.getElem_cons_succ, List.getElem_cons_zero, List.setIfInBounds_toArray, List.set_cons_zero, List.set_cons_succ])
            refine wpAnyH_take (i := 13) (v := ?_) rfl (by kernel_rfl) (by kernel_rfl) (by kernel_rfl) (fun _ _ _ h => h) (Or.inl ⟨by rfl, ?_⟩) (by assumption) ?_; rotate_left; focus ((intro w hSw; (try dsimp only at hSw); go_simp); try with_reducible rfl)
            (try simp only [Act.put, List.getElem_toArray, List.getElem_cons_succ, List.getElem_cons_zero, List.setIfInBounds_toArray, List.set_cons_zero, List.set_cons_succ])
            refine wpAnyH_ready (rs := [6]) (by kernel_rfl) (by simp) ?_
            refine AllReadyH.cons rfl (fun K hK => ?_) AllReadyH.nil
            obtain ⟨g1, g2, g3, g4⟩ := hHeld
            (try go_simp)
            refine (HN1.out _ (below_step hbn g4 hbn.size)).mono ?_
            rintro e V1 ⟨rfl, hbV1⟩
            (try go_simp)
            refine hK.out _ _ ⟨cell_keep g1 hbV1, cell_keep g2 hbV1, cell_keep g3 hbV1, below_step g4 hbV1 g4.size⟩ (fun hHeld => ?_)
            clear hK K
            (try simp only [Act.put, List.getElem_toArray, List.getElem_cons_succ, List.getElem_cons_zero, List.setIfInBounds_toArray, List.set_cons_zero, List.set_cons_succ])
            refine wpAnyH_ready (rs := [14]) (by kernel_rfl) (by simp) ?_
            refine AllReadyH.cons rfl (fun K hK => ?_) AllReadyH.nil
            obtain ⟨g1, g2, g3, g4⟩ := hHeld
            (try go_simp)
            refine (HN2.out _ (below_step hbn g4 hbn.size)).mono ?_
            rintro e V2 ⟨rfl, hbV2⟩
            (try go_simp)
            refine hK.out _ _ ⟨cell_keep g1 hbV2, cell_keep g2 hbV2, cell_keep g3 hbV2, below_step g4 hbV2 g4.size⟩ (fun hHeld => ?_)
            clear hK K
            (try simp only [Act.put, List.getElem_toArray, List.getElem_cons_succ, List.getElem_cons_zero, List.setIfInBounds_toArray, List.set_cons_zero, List.set_cons_succ])
            obtain ⟨_, _, _, hbq⟩ := id hHeld
            refine wpAnyH_take (i := 15) (v := ?_) rfl (by kernel_rfl) (by kernel_rfl) (by kernel_rfl) (fun _ _ _ h => h) (Or.inl ⟨by rfl, ?_⟩) (by assumption) ?_; rotate_left; focus ((intro w hSw; (try dsimp only at hSw); go_simp); try with_reducible rfl)
            (try simp only [Act.put, List.getElem_toArray, List.getElem_cons_succ, List.getElem_cons_zero, List.setIfInBounds_toArray, List.set_cons_zero, List.set_cons_succ])
            refine wpAnyH_take (i := 16) (v := ?_) rfl (by kernel_rfl) (by kernel_rfl) (by kernel_rfl) (fun _ _ _ h => h) (Or.inl ⟨by rfl, ?_⟩) (by assumption) ?_; rotate_left; focus ((intro w hSw; (try dsimp only at hSw); go_simp); try with_reducible rfl)
            (try simp only [Act.put, List.getElem_toArray, List.getElem_cons_succ, List.getElem_cons_zero, List.setIfInBounds_toArray, List.set_cons_zero, List.set_cons_succ])
            refine wpAnyH_done (by kernel_rfl) ?_ _
            have hbz : Below W.heap.size W V2 := below_step hbr hbq hbr.size
            have hb3q : Below w3.heap.size w3 V2 := below_step hb3r hbq hb3r.size
            have e2 := D2.below hbz
            have e20 := e2.cell 0
            have f20 := e2.frozen 0
            simp only [List.getElem?_toArray, List.getElem?_cons_zero] at e20
            cases t1 with
            | true =>
              gi_wp2
              all_goals first
                | exact ⟨(keepsFrom_below hbz).trans ((KeepsOthers.setCell _ _ _).from _), rfl, HBad.out (by simp)⟩
                | (rename_i hz1 hz2 _; injection hz1 with hz1; cases hz1)
                | (rename_i hz1 hz2; injection hz1 with hz1; cases hz1)
            | false =>
              cases t2 with
              | true =>
                gi_wp2
                all_goals first
                  | exact ⟨(keepsFrom_below hbz).trans ((KeepsOthers.setCell _ _ _).from _), rfl, HBad.out (by simp)⟩
                  | (rename_i hz1 hz2 _; injection hz1 with hz1; cases hz1)
                  | (rename_i hz1 hz2; injection hz1 with hz1; cases hz1)
              | false =>
                cases t3 with
                | false =>
                  gi_wp2
                  all_goals first
                    | (rename_i hz1 hz2 _; injection hz1 with hz1; cases hz1)
                    | (rename_i hz1 hz2; injection hz1 with hz1; cases hz1)
                    | skip
                  go_roundw
                  case rel => exact ⟨i + 1, by go_num, by omega, hb3q⟩
                  case measure => simp [intOf]; omega
                | true =>
                  cases c3 with
                  | false =>
                    gi_wp2
                    all_goals first
                      | exact ⟨(keepsFrom_below hbz).trans ((KeepsOthers.setCell _ _ _).from _), rfl, HBad.out (by simp)⟩
                      | (rename_i hz1 hz2 _; injection hz1 with hz1; cases hz1)
                      | (rename_i hz1 hz2; injection hz1 with hz1; cases hz1)
                  | true =>
                    by_cases hjm : j + 1 = m
                    · have q5 : ((i : Int) + 2 == (m : Int)) = true := by rw [beq_iff_eq]; omega
                      gi_wp2
                      all_goals first
                        | (rename_i hz1 hz2 _; injection hz1 with hz1; cases hz1)
                        | (rename_i hz1 hz2; injection hz1 with hz1; cases hz1)
                        | skip
                      go_roundw
                      case rel => exact ⟨i + 1, by go_num, by omega, hb3q⟩
                      case measure => simp [intOf]; omega
                    · have q5 : ((i : Int) + 2 == (m : Int)) = false := by rw [beq_eq_false_iff_ne]; omega
                      gi_wp2
                      all_goals first
                        | (rename_i hz1 hz2 _; injection hz1 with hz1; cases hz1)
                        | (rename_i hz1 hz2; injection hz1 with hz1; cases hz1)
                        | skip
                      exact ⟨(keepsFrom_below hbz).trans ((KeepsOthers.setCell _ _ _).from _), rfl, HBad.out (by first | (simp; exact hjm) | exact .inr (.inr ⟨trivial, fun h => hjm h.2⟩))⟩
          · have B5r := B.below (below_step hbr (Below.refl _ _) hbr.size)
            have g5 := B5r.cell 0
            have h5 := B5r.frozen 0
            simp only [List.getElem?_toArray, List.getElem?_cons_zero] at g5
            gi_wp2
            refine ⟨(keepsFrom_below hbr).trans ((KeepsOthers.setCell _ _ _).from _), (KT.below hbr).trans (KT.setCell B5r (by decide) 0 _), ?_, (below_step hbW hbr hbW.size).setCell (p := ⟨b4 + 1, 0, none⟩) (by simp only; omega) _⟩
            show Blk _ _ _ #[.int .i64 (lastP 0 ((pre ++ [x]).map (clP s)) : Nat)]
            rw [HSn.out]
            exact B5r.set_ 0 (.int .i64 (b : Nat))
      · have q2 : (b : Int) ≤ (a : Int) := by omega
        gi_wp2
        exact ⟨(KeepsOthers.setCell _ _ _).from _, rfl, fun hp => by have := (HPre.out hp).2.1; omega⟩
    · have q1 : ((a : Int) != (z0 : Int)) = true := by rw [bne_iff_ne]; omega
      gi_wp2
      exact ⟨(KeepsOthers.setCell _ _ _).from _, rfl, fun hp => hfa (HPre.out hp).1.symm⟩
end Go.Proofs.YtlbfbkdcjdeagaaGreatDoor

