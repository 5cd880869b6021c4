/-
  kerflaw12.WordAlone, walked. Printed by gen_walone.py.
-/
import Derived.Test.YthlnfefpdmecaaaGreatDoorYWordAlone1a
import Derived.Test.YthlnfefpdmecaaaGreatDoorYWordAlone0b
import Derived.Test.YthlnfefpdmecaaaGreatDoorZ2a
namespace Go.Proofs.YthlnfefpdmecaaaGreatDoor
open Go.RowKit Go.Shelf
attribute [local go_sem] Oper.semAt_some

theorem res_alone (w : World) (b : Nat) (tmps : Array Value) (ht : tmps.getD 2 undef = .pointer (some ⟨b, 0, none⟩)) {v : Bool} (hc : w.cell? ⟨b, 0, none⟩ = some (.bool v)) : (results Tryz.f4 tmps).run Tryz.prog w = .ok (.bool v) w := by
  have ht' : tmps[2]?.getD undef = .pointer (some ⟨b, 0, none⟩) := by simpa [Array.getD_eq_getD_getElem?] using ht
  simp [results, Tryz.results4, go_sem, ht', hc]
theorem seqIS_nil (fn : Fn) (first captured : Array Value) (W : World) : (binOp .eql 28 (.func fn first captured) .nilFunc).run Tryz.prog W = .ok (.bool false) W := by kernel_rfl
theorem nameW_is (r : Int) : ((bytesOf (nmW r)).toList == [76, 101, 116, 116, 101, 114]) = decide (gW r = 10) ∧ ((bytesOf (nmW r)).toList == [68, 105, 103, 105, 116]) = decide (gW r = 16) := by
  have hlt : gW r < wordD.names.length := by rw [wnames_len]; exact gW_lt _
  rw [ByteArray.toList_eq, bytesOf_list]
  have : ∀ k : Nat, k < 20 → ∀ nm ∈ wordD.names[k]?, (nm == [76, 101, 116, 116, 101, 114]) = decide (k = 10) ∧ (nm == [68, 105, 103, 105, 116]) = decide (k = 16) := by decide
  refine this (gW r) (gW_lt r) _ ?_
  unfold nmW
  rw [List.getElem?_eq_getElem hlt]; rfl
def allC (c : Nat) (X : List (Nat × Nat × Nat)) : Bool := X.all fun y => decide (gW (y.1 : Nat) = c)
theorem allC_snoc (c : Nat) {X : List (Nat × Nat × Nat)} {i : Nat} {y : Nat × Nat × Nat} (h : X[i]? = some y) : allC c (X.take (i + 1)) = (allC c (X.take i) && decide (gW (y.1 : Nat) = c)) := by
  unfold allC
  rw [List.take_add_one, h, Option.toList_some, List.all_append]; simp
/-- A word of letters alone, or of digits, is one piece. -/
theorem alone_one {t : ByteArray} (hw : isWP t = true) (h : allC 10 (runesP t) = true ∨ allC 16 (runesP t) = true) : (wBounds gW t).length = 2 ∧ (wordsP t).length = 1 := by
  have hz : 0 < t.size := by
    rcases Nat.eq_zero_or_pos t.size with h0 | h0
    · exfalso
      have hr : runesP t = [] := by unfold runesP; rw [h0]; rfl
      have hc : wCls gW t = [] := by unfold wCls; rw [hr]; rfl
      unfold isWP at hw
      rw [hc] at hw
      exact absurd hw (by decide)
    · exact h0
  have hb : wBounds gW t = [0, t.size] := wBounds_alone hz (by
    rcases h with h | h
    · left; intro x hx; unfold allC at h; rw [List.all_eq_true] at h; simpa using h x hx
    · right; intro x hx; unfold allC at h; rw [List.all_eq_true] at h; simpa using h x hx)
  refine ⟨by rw [hb]; rfl, ?_⟩
  unfold wordsP
  rw [hb]
  have : isWX t (0, t.size) = true := by
    unfold isWX
    rw [clP_in (x := (0, t.size)) ⟨Nat.zero_le _, Nat.le_refl _⟩]
    simp only
    rw [show t.extract 0 t.size = t by simp]
    exact hw
  show (List.filter (isWX t) [(0, t.size)]).length = 1
  rw [List.filter_cons, this]; rfl
set_option maxRecDepth 100000 in
set_option maxHeartbeats 16000000 in
theorem pWordAlone_any (s : ByteArray) (w : World) (hE : Env w) (hs : s.size ≤ 140737488355328) :
    Calls Tryz.prog 4 #[.string s] w fun e w' => e = .returned (.bool true) ∧ Below w.heap.size w w' := by
  have hA2 : Below w.heap.size w (w.alloc (.cells #[.bool false] 4)) := (Below.refl _ _).alloc (Nat.le_refl _) _
  have B2 : Blk (w.alloc (.cells #[.bool false] 4)) w.heap.size 4 #[.bool false] := Blk.new _ _ _
  have HLv := Lib.hid (fun W (h : Env W) => klive_any W h)
  refine (callsIn_wide (n := 8)).1 ?_
  refine callsIn_of_wp_marks Tryz.func4 rfl trivial ?_ rfl
  simp only [Tryz.ntmps4, List.size_toArray, List.length_cons, List.length_nil, Nat.reduceAdd, Nat.reduceSub, Array.replicate_succ, Array.replicate_zero, List.push_toArray, List.append_toArray, List.nil_append, List.cons_append]
  refine wpIn_wide.2 ?_
  by_cases h1 : 70 < s.size
  · have g1 : (70 : Int) < (s.size : Int) := by omega
    go_wp2_with fail
    generalize (w.alloc (.cells #[.bool false] 4)) = w0 at hA2 B2 ⊢
    refine (HLv.out _ (hE.below hA2)).mono ?_
    rintro e w1 ⟨rfl, hb⟩
    have C2 := B2.below hb
    have e2 := C2.cell 0
    have f2 := C2.frozen 0
    simp only [List.getElem?_toArray, List.getElem?_cons_zero] at e2
    have hbb := below_two hA2 hb
    go_wp2
    exact ⟨_, res_alone _ w.heap.size _ rfl ((C2.set_ 0 (.bool true)).cell 0), rfl, hbb.setCell (p := ⟨w.heap.size, 0, none⟩) (Nat.le_refl _) _⟩
  have g1 : ¬ (70 : Int) < (s.size : Int) := by omega
  have hsz : s.size ≤ 70 := by omega
  have hsq := fun (fn : Fn) (a b : Array Value) W => seqIS_nil fn a b W
  have HD := Lib.hid (fun W => kDbR_any W)
  clear h1 hs
  go_wp2_with fail
  generalize (w.alloc (.cells #[.bool false] 4)) = w0 at hA2 B2 ⊢
  refine (HD.out w0).mono ?_
  rintro e w2 ⟨p, x, rfl, hd, hb2⟩
  have hbD : Below w0.heap.size w0 (w2.alloc (.cells #[.pointer (some ⟨p, 0, none⟩)] 25)) := hb2.alloc hb2.size _
  have B3 : Blk (w2.alloc (.cells #[.pointer (some ⟨p, 0, none⟩)] 25)) w2.heap.size 25 #[.pointer (some ⟨p, 0, none⟩)] := Blk.new _ _ _
  have hdD := hd.below ((Below.refl w2.heap.size w2).alloc (Nat.le_refl _) (.cells #[.pointer (some ⟨p, 0, none⟩)] 25))
  go_wp2_with fail
  generalize (w2.alloc (.cells #[.pointer (some ⟨p, 0, none⟩)] 25)) = wD at hbD B3 hdD ⊢
  generalize w2.heap.size = b3 at B3 ⊢
  refine (kWords_any s wD).mono ?_
  rintro e w1 ⟨rfl, hS, hb1⟩
  have hwD := below_two hA2 hbD
  have hw1 := below_step hwD hb1 hwD.size
  have C2 := (B2.below hbD).below hb1
  have C3 := B3.below hb1
  have hd1 := hdD.below hb1
  have hE1 := hE.below hw1
  have hz2 := C2.lt
  clear B2 B3 hdD hd hbD hb2 hA2 hE
  go_wp2_with fail
  refine (wpIn_wide (n := 8)).1 ?_
  refine rngC rfl (by decide) (gf := 81) (lb := #[.pointer (some ⟨wD.heap.size, 0, none⟩)]) rfl trivial (enters_of Tryz.func81 (by kernel_rfl) rfl)
    (kWords_seq 7 (by decide) w1 w1 s wD.heap.size (fun _ => False) (Below.refl _ _) (fun b h => h.elim) (fun h => h) hE1 (by omega) hS) (fun h k => h.trans k) (KpB.put (Nat.le_refl _)) (Below.refl _ _) (fun _ => rfl)
    (fun (_ : List (Nat × Nat)) W => Below w1.heap.size w1 W)
    (fun cc pre _ => cc = .ret ∧ ¬ pre <+: wordsP s)
    (ownFrom_below (Nat.le_refl _) (Nat.le_refl _))
    (fun _ _ _ _ _ hs _ _ => hs) (Below.refl _ _)
    (fun T (x : Nat × Nat) => ((T.setIfInBounds 21 (.int .i64 ((clP s x).1 : Nat))).setIfInBounds 22 (.string (s.extract (clP s x).1 (clP s x).2))).setIfInBounds 6 (.string (s.extract (clP s x).1 (clP s x).2))) ?assign ?body ?done ?stop
  case assign =>
    intro l2 x V K hK
    simp only [List.setIfInBounds_toArray, List.set_cons_succ, List.set_cons_zero] at hK
    simp only [encWd]
    gi_wp2
    exact hK
  case stop =>
    rintro D cc pre W hD hp ⟨rfl, hnp⟩ hK
    exact absurd hp hnp
  case done =>
    rintro D ys V hD hys hbV hK
    have hwV := below_step hw1 hbV hw1.size
    go_wp2_with fail
    refine (HLv.out _ (hE1.below hbV)).mono ?_
    rintro e w9 ⟨rfl, hb9⟩
    have D2 := (C2.below hbV).below hb9
    have e2 := D2.cell 0
    have f2 := D2.frozen 0
    simp only [List.getElem?_toArray, List.getElem?_cons_zero] at e2
    have hw9 := below_step hwV hb9 hwV.size
    have hK9 := (hb9.block D (Array.getElem?_eq_some_iff.1 hK).1).trans hK
    go_wp2
    have hK3 := (Below.heap_setCell w9 ⟨w.heap.size, 0, none⟩ (.bool true) D (by simp only; omega)).trans hK9
    refine ⟨by simp, .inl ⟨_, _, rfl, run_takeDeferred hK3, ?_⟩⟩
    exact ⟨_, res_alone _ w.heap.size _ rfl ((blk_put (D := D) (o := .deferred none) (D2.set_ 0 (.bool true)) (by omega)).cell 0), rfl, (hw9.setCell (p := ⟨w.heap.size, 0, none⟩) (Nat.le_refl _) _).trans (belowK_b (w := w) (Nat.le_refl _) _ D _ _ (by omega) hK3 rfl rfl)⟩
  case body =>
    rintro l2 pre x W hl2 _ hbW hlen
    simp only [List.setIfInBounds_toArray, List.set_cons_succ, List.set_cons_zero]
    have hcx := clP_le s x
    have hwd : pre ++ [x] <+: wordsP s → isWP (s.extract (clP s x).1 (clP s x).2) = true := fun hp => by
      have := (List.mem_filter.1 (hp.subset (by simp : x ∈ pre ++ [x]))).2
      exact this
    have htz : (s.extract (clP s x).1 (clP s x).2).size ≤ 70 := by rw [ByteArray.size_extract]; omega
    generalize s.extract (clP s x).1 (clP s x).2 = t at hwd htz ⊢
    generalize (clP s x).1 = a0
    have D2 := C2.below hbW
    have HR := Lib.hid (fun W => sRunes_any t W (by omega))
    obtain ⟨X, HX⟩ : ∃ L, Hid (runesP t = L) := ⟨_, Lib.hid rfl⟩
    have hXz : X.length ≤ 70 := by rw [← HX.out]; exact Nat.le_trans (runesP_len _) htz
    rw [HX.out] at HR
    have HAl : Hid (pre ++ [x] <+: wordsP s → (allC 10 X = true ∨ allC 16 X = true) → (wBounds gW t).length = 2 ∧ (wordsP t).length = 1) := Lib.hid (fun hp h => alone_one (hwd hp) (by rw [HX.out]; exact h))
    have HKd : Hid (pre ++ [x] <+: wordsP s → kindC (wCls gW t) = 4 ∨ kindC (wCls gW t) = 3) := Lib.hid (fun hp => by
      have := hwd hp
      unfold isWP at this
      simpa using this)
    have HB := Lib.hid (fun W (h : Env W) => kBounds_any t W h (by omega))
    have HC := Lib.hid (fun W (h : Env W) => kCount_any t W h (by omega))
    have HK := Lib.hid (fun W (h : Env W) => kKind_any t W h (by omega))
    have hwl := wordsP_len t
    have hbl := wBounds_len gW t
    clear hwd hcx HX hlen
    gi_wp2_with fail
    refine ⟨trivial, ?_⟩
    refine (CallsIn.inRound l2 (callsIn_wide.2 (HR.out W))).mono ?_
    rintro e w3 ⟨A, m, c, rfl, ho, hb3⟩
    have hm : X.length = m := by have := ho.len; simpa using this
    have Hm := Lib.hid hm
    have hmz : m ≤ 70 := by omega
    clear hm HR
    gi_wp2_with fail
    gi_loopw [8, 9, 10] (fun u1 u2 v wr => ∃ (i : Nat) (l d : Bool), u1 = .bool l ∧ u2 = .bool d ∧ v = .int .i64 i ∧ i ≤ m ∧ Hid (l = allC 10 (X.take i)) ∧ Hid (d = allC 16 (X.take i)) ∧ Below w3.heap.size w3 wr) (fun _ _ v _ => m - (intOf v).toNat)
    case atStart => exact ⟨0, true, true, rfl, rfl, rfl, by omega, Lib.hid rfl, Lib.hid rfl, Below.refl _ _⟩
    case round =>
      obtain ⟨i, l, d, rfl, rfl, rfl, hi, Hl, Hd, hb3r⟩ := hrel
      have hbr := below_step hb3 hb3r hb3.size
      have hbn := below_step hbW hbr hbW.size
      by_cases hlt : i < m
      · obtain ⟨⟨R, ra, rb⟩, Hx⟩ : ∃ x, Hid (X[i]? = some x) := ⟨_, Lib.hid (List.getElem?_eq_getElem (by have := Hm.out; omega))⟩
        have HT := Lib.hid (And.intro (allC_snoc 10 Hx.out) (allC_snoc 16 Hx.out))
        have rd := (ho.below hb3r).rd (by decide)
        obtain ⟨bk, off, rfl, hcs⟩ := rd (by intro e; have := congrArg List.length e; rw [List.length_map, Hm.out] at this; simp at this; omega)
        have x1 := hcs i 0 (encRn (R, ra, rb)) (.int .i32 (R : Nat)) (by rw [List.getElem?_map, Hx.out]; rfl) rfl
        simp only [Nat.add_zero] at x1
        have d3 := (C3.below hbn).cell 0
        simp only [List.getElem?_toArray, List.getElem?_cons_zero] at d3
        obtain ⟨hn1, hn2⟩ := nameW_is (R : Int)
        have HN := Lib.hid (fun V (h : Below w1.heap.size w1 V) => kname_any _ p _ (R : Int) V (hd1.below h))
        simp only at HT
        generalize decide (gW (R : Int) = 10) = tl at hn1 HT
        generalize decide (gW (R : Int) = 16) = td at hn2 HT
        generalize nmW (R : Int) = nm at hn1 hn2 HN
        clear hcs rd Hx
        cases l with
        | true =>
          cases d with
          | true =>
            gi_wp2_with fail
            refine wpIn_region_round (S := fun V => V.cell? ⟨b3, 0, none⟩ = some (.pointer (some ⟨p, 0, none⟩)) ∧ V.cell? ⟨bk, off + i * 3, none⟩ = some (.int .i32 (R : Nat)) ∧ Below wr.heap.size wr V) (by kernel_rfl) (by kernel_rfl) (fun h => by obtain ⟨_, _, h⟩ := h; exact h) ⟨d3, x1, (Below.refl _ _).drew⟩ (fun hHeld => ?_)
            refine wpAnyH_take (i := 0) (v := ?_) rfl (by kernel_rfl) (by kernel_rfl) (by kernel_rfl) (fun _ _ _ h => h) (Or.inl ⟨by rfl, ?_⟩) (by assumption) ?_; rotate_left; focus ((intro w hSw; (try dsimp only at hSw); go_simp); try with_reducible rfl)
            (try simp only [Act.put, List.getElem_toArray, List.getElem_cons_zero, List.setIfInBounds_toArray, List.set_cons_zero, List.set_cons_succ])
            refine wpAnyH_take (i := 1) (v := ?_) rfl (by kernel_rfl) (by kernel_rfl) (by kernel_rfl) (fun _ _ _ h => h) (Or.inl ⟨by rfl, ?_⟩) (by assumption) ?_; rotate_left; focus ((intro w hSw; (try dsimp only at hSw); go_simp); try with_reducible rfl)
            (try simp only [Act.put, List.getElem_toArray, List.getElem_cons_succ, List.getElem_cons_zero, List.setIfInBounds_toArray, List.set_cons_zero, List.set_cons_succ])
            refine wpAnyH_take (i := 2) (v := ?_) rfl (by kernel_rfl) (by kernel_rfl) (by kernel_rfl) (fun _ _ _ h => h) (Or.inl ⟨by rfl, ?_⟩) (by assumption) ?_; rotate_left; focus ((intro w hSw; (try dsimp only at hSw); go_simp); try with_reducible rfl)
            (try simp only [Act.put, List.getElem_toArray, List.getElem_cons_succ, List.getElem_cons_zero, List.setIfInBounds_toArray, List.set_cons_zero, List.set_cons_succ])
            refine wpAnyH_take (i := 3) (v := ?_) rfl (by kernel_rfl) (by kernel_rfl) (by kernel_rfl) (fun _ _ _ h => h) (Or.inl ⟨by rfl, ?_⟩) (by assumption) ?_; rotate_left; focus ((intro w hSw; (try dsimp only at hSw); go_simp); try with_reducible rfl)
            (try simp only [Act.put, List.getElem_toArray, List.getElem_cons_succ, List.getElem_cons_zero, List.setIfInBounds_toArray, List.set_cons_zero, List.set_cons_succ])
            refine wpAnyH_take (i := 4) (v := ?_) rfl (by kernel_rfl) (by kernel_rfl) (by kernel_rfl) (fun _ _ _ h => h) (Or.inl ⟨by rfl, ?_⟩) (by assumption) ?_; rotate_left; focus ((intro w hSw; (try dsimp only at hSw); go_simp); try with_reducible rfl)
            (try simp only [Act.put, List.getElem_toArray, List.getElem_cons_succ, List.getElem_cons_zero, List.setIfInBounds_toArray, List.set_cons_zero, List.set_cons_succ])
            refine wpAnyH_take (i := 5) (v := ?_) rfl (by kernel_rfl) (by kernel_rfl) (by kernel_rfl) (fun _ _ _ h => h) (Or.inl ⟨by rfl, ?_⟩) (by assumption) ?_; rotate_left; focus ((intro w hSw; (try dsimp only at hSw); go_simp); try with_reducible rfl)
            (try simp only [Act.put, List.getElem_toArray, List.getElem_cons_succ, List.getElem_cons_zero, List.setIfInBounds_toArray, List.set_cons_zero, List.set_cons_succ])
            refine wpAnyH_take (i := 6) (v := ?_) rfl (by kernel_rfl) (by kernel_rfl) (by kernel_rfl) (fun _ _ _ h => h) (Or.inl ⟨by rfl, ?_⟩) (by assumption) ?_; rotate_left; focus ((intro w hSw; (try dsimp only at hSw); go_simp); try with_reducible rfl)
            (try simp only [Act.put, List.getElem_toArray, List.getElem_cons_succ, List.getElem_cons_zero, List.setIfInBounds_toArray, List.set_cons_zero, List.set_cons_succ])
            refine wpAnyH_take (i := 7) (v := ?_) rfl (by kernel_rfl) (by kernel_rfl) (by kernel_rfl) (fun _ _ _ h => h) (Or.inl ⟨by rfl, ?_⟩) (by assumption) ?_; rotate_left; focus ((intro w hSw; (try dsimp only at hSw); go_simp); try with_reducible rfl)
            (try simp only [Act.put, List.getElem_toArray, List.getElem_cons_succ, List.getElem_cons_zero, List.setIfInBounds_toArray, List.set_cons_zero, List.set_cons_succ])
            refine wpAnyH_ready (rs := [8]) (by kernel_rfl) (by simp) ?_
            refine AllReadyH.cons rfl (fun K hK => ?_) AllReadyH.nil
            obtain ⟨g1, g2, g3⟩ := hHeld
            (try go_simp)
            refine (HN.out _ (below_step hbn g3 hbn.size)).mono ?_
            rintro e V1 ⟨rfl, hbV1⟩
            (try go_simp)
            refine hK.out _ _ ⟨cell_keep g1 hbV1, cell_keep g2 hbV1, below_step g3 hbV1 g3.size⟩ (fun hHeld => ?_)
            clear hK K
            (try simp only [Act.put, List.getElem_toArray, List.getElem_cons_succ, List.getElem_cons_zero, List.setIfInBounds_toArray, List.set_cons_zero, List.set_cons_succ])
            refine wpAnyH_take (i := 9) (v := ?_) rfl (by kernel_rfl) (by kernel_rfl) (by kernel_rfl) (fun _ _ _ h => h) (Or.inl ⟨by rfl, ?_⟩) (by assumption) ?_; rotate_left; focus ((intro w hSw; (try dsimp only at hSw); go_simp); try with_reducible rfl)
            (try simp only [Act.put, List.getElem_toArray, List.getElem_cons_succ, List.getElem_cons_zero, List.setIfInBounds_toArray, List.set_cons_zero, List.set_cons_succ])
            refine wpAnyH_take (i := 10) (v := ?_) rfl (by kernel_rfl) (by kernel_rfl) (by kernel_rfl) (fun _ _ _ h => h) (Or.inl ⟨by rfl, ?_⟩) (by assumption) ?_; rotate_left; focus ((intro w hSw; (try dsimp only at hSw); go_simp); try with_reducible rfl)
            (try simp only [Act.put, List.getElem_toArray, List.getElem_cons_succ, List.getElem_cons_zero, List.setIfInBounds_toArray, List.set_cons_zero, List.set_cons_succ])
            refine wpAnyH_take (i := 11) (v := ?_) rfl (by kernel_rfl) (by kernel_rfl) (by kernel_rfl) (fun _ _ _ h => h) (Or.inl ⟨by rfl, ?_⟩) (by assumption) ?_; rotate_left; focus ((intro w hSw; (try dsimp only at hSw); go_simp); try with_reducible rfl)
            (try simp only [Act.put, List.getElem_toArray, List.getElem_cons_succ, List.getElem_cons_zero, List.setIfInBounds_toArray, List.set_cons_zero, List.set_cons_succ])
            obtain ⟨g1, g2, hqV1⟩ := id hHeld
            refine wpAnyH_done (by kernel_rfl) ?_ _
            have hbn1 := below_step hbn hqV1 hbn.size
            have d31 := g1
            have x11 := g2
            clear g1 g2 hHeld
            gi_wp2_with fail
            refine wpIn_region_round (S := fun V => V.cell? ⟨b3, 0, none⟩ = some (.pointer (some ⟨p, 0, none⟩)) ∧ V.cell? ⟨bk, off + i * 3, none⟩ = some (.int .i32 (R : Nat)) ∧ Below V1.heap.size V1 V) (by kernel_rfl) (by kernel_rfl) (fun h => by obtain ⟨_, _, h⟩ := h; exact h) ⟨d31, x11, (Below.refl _ _).drew⟩ (fun hHeld => ?_)
            refine wpAnyH_take (i := 0) (v := ?_) rfl (by kernel_rfl) (by kernel_rfl) (by kernel_rfl) (fun _ _ _ h => h) (Or.inl ⟨by rfl, ?_⟩) (by assumption) ?_; rotate_left; focus ((intro w hSw; (try dsimp only at hSw); go_simp); try with_reducible rfl)
            (try simp only [Act.put, List.getElem_toArray, List.getElem_cons_zero, List.setIfInBounds_toArray, List.set_cons_zero, List.set_cons_succ])
            refine wpAnyH_take (i := 1) (v := ?_) rfl (by kernel_rfl) (by kernel_rfl) (by kernel_rfl) (fun _ _ _ h => h) (Or.inl ⟨by rfl, ?_⟩) (by assumption) ?_; rotate_left; focus ((intro w hSw; (try dsimp only at hSw); go_simp); try with_reducible rfl)
            (try simp only [Act.put, List.getElem_toArray, List.getElem_cons_succ, List.getElem_cons_zero, List.setIfInBounds_toArray, List.set_cons_zero, List.set_cons_succ])
            refine wpAnyH_take (i := 2) (v := ?_) rfl (by kernel_rfl) (by kernel_rfl) (by kernel_rfl) (fun _ _ _ h => h) (Or.inl ⟨by rfl, ?_⟩) (by assumption) ?_; rotate_left; focus ((intro w hSw; (try dsimp only at hSw); go_simp); try with_reducible rfl)
            (try simp only [Act.put, List.getElem_toArray, List.getElem_cons_succ, List.getElem_cons_zero, List.setIfInBounds_toArray, List.set_cons_zero, List.set_cons_succ])
            refine wpAnyH_take (i := 3) (v := ?_) rfl (by kernel_rfl) (by kernel_rfl) (by kernel_rfl) (fun _ _ _ h => h) (Or.inl ⟨by rfl, ?_⟩) (by assumption) ?_; rotate_left; focus ((intro w hSw; (try dsimp only at hSw); go_simp); try with_reducible rfl)
            (try simp only [Act.put, List.getElem_toArray, List.getElem_cons_succ, List.getElem_cons_zero, List.setIfInBounds_toArray, List.set_cons_zero, List.set_cons_succ])
            refine wpAnyH_take (i := 4) (v := ?_) rfl (by kernel_rfl) (by kernel_rfl) (by kernel_rfl) (fun _ _ _ h => h) (Or.inl ⟨by rfl, ?_⟩) (by assumption) ?_; rotate_left; focus ((intro w hSw; (try dsimp only at hSw); go_simp); try with_reducible rfl)
            (try simp only [Act.put, List.getElem_toArray, List.getElem_cons_succ, List.getElem_cons_zero, List.setIfInBounds_toArray, List.set_cons_zero, List.set_cons_succ])
            refine wpAnyH_take (i := 5) (v := ?_) rfl (by kernel_rfl) (by kernel_rfl) (by kernel_rfl) (fun _ _ _ h => h) (Or.inl ⟨by rfl, ?_⟩) (by assumption) ?_; rotate_left; focus ((intro w hSw; (try dsimp only at hSw); go_simp); try with_reducible rfl)
            (try simp only [Act.put, List.getElem_toArray, List.getElem_cons_succ, List.getElem_cons_zero, List.setIfInBounds_toArray, List.set_cons_zero, List.set_cons_succ])
            refine wpAnyH_take (i := 6) (v := ?_) rfl (by kernel_rfl) (by kernel_rfl) (by kernel_rfl) (fun _ _ _ h => h) (Or.inl ⟨by rfl, ?_⟩) (by assumption) ?_; rotate_left; focus ((intro w hSw; (try dsimp only at hSw); go_simp); try with_reducible rfl)
            (try simp only [Act.put, List.getElem_toArray, List.getElem_cons_succ, List.getElem_cons_zero, List.setIfInBounds_toArray, List.set_cons_zero, List.set_cons_succ])
            refine wpAnyH_take (i := 7) (v := ?_) rfl (by kernel_rfl) (by kernel_rfl) (by kernel_rfl) (fun _ _ _ h => h) (Or.inl ⟨by rfl, ?_⟩) (by assumption) ?_; rotate_left; focus ((intro w hSw; (try dsimp only at hSw); go_simp); try with_reducible rfl)
            (try simp only [Act.put, List.getElem_toArray, List.getElem_cons_succ, List.getElem_cons_zero, List.setIfInBounds_toArray, List.set_cons_zero, List.set_cons_succ])
            refine wpAnyH_ready (rs := [8]) (by kernel_rfl) (by simp) ?_
            refine AllReadyH.cons rfl (fun K hK => ?_) AllReadyH.nil
            obtain ⟨g1, g2, g3⟩ := hHeld
            (try go_simp)
            refine (HN.out _ (below_step hbn1 g3 hbn1.size)).mono ?_
            rintro e V2 ⟨rfl, hbV2⟩
            (try go_simp)
            refine hK.out _ _ ⟨cell_keep g1 hbV2, cell_keep g2 hbV2, below_step g3 hbV2 g3.size⟩ (fun hHeld => ?_)
            clear hK K
            (try simp only [Act.put, List.getElem_toArray, List.getElem_cons_succ, List.getElem_cons_zero, List.setIfInBounds_toArray, List.set_cons_zero, List.set_cons_succ])
            refine wpAnyH_take (i := 9) (v := ?_) rfl (by kernel_rfl) (by kernel_rfl) (by kernel_rfl) (fun _ _ _ h => h) (Or.inl ⟨by rfl, ?_⟩) (by assumption) ?_; rotate_left; focus ((intro w hSw; (try dsimp only at hSw); go_simp); try with_reducible rfl)
            (try simp only [Act.put, List.getElem_toArray, List.getElem_cons_succ, List.getElem_cons_zero, List.setIfInBounds_toArray, List.set_cons_zero, List.set_cons_succ])
            refine wpAnyH_take (i := 10) (v := ?_) rfl (by kernel_rfl) (by kernel_rfl) (by kernel_rfl) (fun _ _ _ h => h) (Or.inl ⟨by rfl, ?_⟩) (by assumption) ?_; rotate_left; focus ((intro w hSw; (try dsimp only at hSw); go_simp); try with_reducible rfl)
            (try simp only [Act.put, List.getElem_toArray, List.getElem_cons_succ, List.getElem_cons_zero, List.setIfInBounds_toArray, List.set_cons_zero, List.set_cons_succ])
            refine wpAnyH_take (i := 11) (v := ?_) rfl (by kernel_rfl) (by kernel_rfl) (by kernel_rfl) (fun _ _ _ h => h) (Or.inl ⟨by rfl, ?_⟩) (by assumption) ?_; rotate_left; focus ((intro w hSw; (try dsimp only at hSw); go_simp); try with_reducible rfl)
            (try simp only [Act.put, List.getElem_toArray, List.getElem_cons_succ, List.getElem_cons_zero, List.setIfInBounds_toArray, List.set_cons_zero, List.set_cons_succ])
            obtain ⟨g1, g2, hqV2⟩ := id hHeld
            refine wpAnyH_done (by kernel_rfl) ?_ _
            have hbq : Below w3.heap.size w3 (V2) := below_step (below_step hb3r hqV1 hb3r.size) hqV2 (below_step hb3r hqV1 hb3r.size).size
            clear g1 g2 hHeld
            gi_wp2
            go_roundw
            case rel => exact ⟨i + 1, _, _, rfl, rfl, by go_num, by omega, Lib.hid (by rw [HT.out.1, ← Hl.out]; first | rfl | simp), Lib.hid (by rw [HT.out.2, ← Hd.out]; first | rfl | simp), hbq⟩
            case measure => simp [intOf]; omega
          | false =>
            gi_wp2_with fail
            refine wpIn_region_round (S := fun V => V.cell? ⟨b3, 0, none⟩ = some (.pointer (some ⟨p, 0, none⟩)) ∧ V.cell? ⟨bk, off + i * 3, none⟩ = some (.int .i32 (R : Nat)) ∧ Below wr.heap.size wr V) (by kernel_rfl) (by kernel_rfl) (fun h => by obtain ⟨_, _, h⟩ := h; exact h) ⟨d3, x1, (Below.refl _ _).drew⟩ (fun hHeld => ?_)
            refine wpAnyH_take (i := 0) (v := ?_) rfl (by kernel_rfl) (by kernel_rfl) (by kernel_rfl) (fun _ _ _ h => h) (Or.inl ⟨by rfl, ?_⟩) (by assumption) ?_; rotate_left; focus ((intro w hSw; (try dsimp only at hSw); go_simp); try with_reducible rfl)
            (try simp only [Act.put, List.getElem_toArray, List.getElem_cons_zero, List.setIfInBounds_toArray, List.set_cons_zero, List.set_cons_succ])
            refine wpAnyH_take (i := 1) (v := ?_) rfl (by kernel_rfl) (by kernel_rfl) (by kernel_rfl) (fun _ _ _ h => h) (Or.inl ⟨by rfl, ?_⟩) (by assumption) ?_; rotate_left; focus ((intro w hSw; (try dsimp only at hSw); go_simp); try with_reducible rfl)
            (try simp only [Act.put, List.getElem_toArray, List.getElem_cons_succ, List.getElem_cons_zero, List.setIfInBounds_toArray, List.set_cons_zero, List.set_cons_succ])
            refine wpAnyH_take (i := 2) (v := ?_) rfl (by kernel_rfl) (by kernel_rfl) (by kernel_rfl) (fun _ _ _ h => h) (Or.inl ⟨by rfl, ?_⟩) (by assumption) ?_; rotate_left; focus ((intro w hSw; (try dsimp only at hSw); go_simp); try with_reducible rfl)
            (try simp only [Act.put, List.getElem_toArray, List.getElem_cons_succ, List.getElem_cons_zero, List.setIfInBounds_toArray, List.set_cons_zero, List.set_cons_succ])
            refine wpAnyH_take (i := 3) (v := ?_) rfl (by kernel_rfl) (by kernel_rfl) (by kernel_rfl) (fun _ _ _ h => h) (Or.inl ⟨by rfl, ?_⟩) (by assumption) ?_; rotate_left; focus ((intro w hSw; (try dsimp only at hSw); go_simp); try with_reducible rfl)
            (try simp only [Act.put, List.getElem_toArray, List.getElem_cons_succ, List.getElem_cons_zero, List.setIfInBounds_toArray, List.set_cons_zero, List.set_cons_succ])
            refine wpAnyH_take (i := 4) (v := ?_) rfl (by kernel_rfl) (by kernel_rfl) (by kernel_rfl) (fun _ _ _ h => h) (Or.inl ⟨by rfl, ?_⟩) (by assumption) ?_; rotate_left; focus ((intro w hSw; (try dsimp only at hSw); go_simp); try with_reducible rfl)
            (try simp only [Act.put, List.getElem_toArray, List.getElem_cons_succ, List.getElem_cons_zero, List.setIfInBounds_toArray, List.set_cons_zero, List.set_cons_succ])
            refine wpAnyH_take (i := 5) (v := ?_) rfl (by kernel_rfl) (by kernel_rfl) (by kernel_rfl) (fun _ _ _ h => h) (Or.inl ⟨by rfl, ?_⟩) (by assumption) ?_; rotate_left; focus ((intro w hSw; (try dsimp only at hSw); go_simp); try with_reducible rfl)
            (try simp only [Act.put, List.getElem_toArray, List.getElem_cons_succ, List.getElem_cons_zero, List.setIfInBounds_toArray, List.set_cons_zero, List.set_cons_succ])
            refine wpAnyH_take (i := 6) (v := ?_) rfl (by kernel_rfl) (by kernel_rfl) (by kernel_rfl) (fun _ _ _ h => h) (Or.inl ⟨by rfl, ?_⟩) (by assumption) ?_; rotate_left; focus ((intro w hSw; (try dsimp only at hSw); go_simp); try with_reducible rfl)
            (try simp only [Act.put, List.getElem_toArray, List.getElem_cons_succ, List.getElem_cons_zero, List.setIfInBounds_toArray, List.set_cons_zero, List.set_cons_succ])
            refine wpAnyH_take (i := 7) (v := ?_) rfl (by kernel_rfl) (by kernel_rfl) (by kernel_rfl) (fun _ _ _ h => h) (Or.inl ⟨by rfl, ?_⟩) (by assumption) ?_; rotate_left; focus ((intro w hSw; (try dsimp only at hSw); go_simp); try with_reducible rfl)
            (try simp only [Act.put, List.getElem_toArray, List.getElem_cons_succ, List.getElem_cons_zero, List.setIfInBounds_toArray, List.set_cons_zero, List.set_cons_succ])
            refine wpAnyH_ready (rs := [8]) (by kernel_rfl) (by simp) ?_
            refine AllReadyH.cons rfl (fun K hK => ?_) AllReadyH.nil
            obtain ⟨g1, g2, g3⟩ := hHeld
            (try go_simp)
            refine (HN.out _ (below_step hbn g3 hbn.size)).mono ?_
            rintro e V1 ⟨rfl, hbV1⟩
            (try go_simp)
            refine hK.out _ _ ⟨cell_keep g1 hbV1, cell_keep g2 hbV1, below_step g3 hbV1 g3.size⟩ (fun hHeld => ?_)
            clear hK K
            (try simp only [Act.put, List.getElem_toArray, List.getElem_cons_succ, List.getElem_cons_zero, List.setIfInBounds_toArray, List.set_cons_zero, List.set_cons_succ])
            refine wpAnyH_take (i := 9) (v := ?_) rfl (by kernel_rfl) (by kernel_rfl) (by kernel_rfl) (fun _ _ _ h => h) (Or.inl ⟨by rfl, ?_⟩) (by assumption) ?_; rotate_left; focus ((intro w hSw; (try dsimp only at hSw); go_simp); try with_reducible rfl)
            (try simp only [Act.put, List.getElem_toArray, List.getElem_cons_succ, List.getElem_cons_zero, List.setIfInBounds_toArray, List.set_cons_zero, List.set_cons_succ])
            refine wpAnyH_take (i := 10) (v := ?_) rfl (by kernel_rfl) (by kernel_rfl) (by kernel_rfl) (fun _ _ _ h => h) (Or.inl ⟨by rfl, ?_⟩) (by assumption) ?_; rotate_left; focus ((intro w hSw; (try dsimp only at hSw); go_simp); try with_reducible rfl)
            (try simp only [Act.put, List.getElem_toArray, List.getElem_cons_succ, List.getElem_cons_zero, List.setIfInBounds_toArray, List.set_cons_zero, List.set_cons_succ])
            refine wpAnyH_take (i := 11) (v := ?_) rfl (by kernel_rfl) (by kernel_rfl) (by kernel_rfl) (fun _ _ _ h => h) (Or.inl ⟨by rfl, ?_⟩) (by assumption) ?_; rotate_left; focus ((intro w hSw; (try dsimp only at hSw); go_simp); try with_reducible rfl)
            (try simp only [Act.put, List.getElem_toArray, List.getElem_cons_succ, List.getElem_cons_zero, List.setIfInBounds_toArray, List.set_cons_zero, List.set_cons_succ])
            obtain ⟨g1, g2, hqV1⟩ := id hHeld
            refine wpAnyH_done (by kernel_rfl) ?_ _
            have hbn1 := below_step hbn hqV1 hbn.size
            have d31 := g1
            have x11 := g2
            clear g1 g2 hHeld
            gi_wp2_with fail
            refine wpIn_region_round (S := fun V => V.cell? ⟨b3, 0, none⟩ = some (.pointer (some ⟨p, 0, none⟩)) ∧ V.cell? ⟨bk, off + i * 3, none⟩ = some (.int .i32 (R : Nat)) ∧ Below V1.heap.size V1 V) (by kernel_rfl) (by kernel_rfl) (fun h => by obtain ⟨_, _, h⟩ := h; exact h) ⟨d31, x11, (Below.refl _ _).drew⟩ (fun hHeld => ?_)
            refine wpAnyH_take (i := 0) (v := ?_) rfl (by kernel_rfl) (by kernel_rfl) (by kernel_rfl) (fun _ _ _ h => h) (Or.inl ⟨by rfl, ?_⟩) (by assumption) ?_; rotate_left; focus ((intro w hSw; (try dsimp only at hSw); go_simp); try with_reducible rfl)
            (try simp only [Act.put, List.getElem_toArray, List.getElem_cons_zero, List.setIfInBounds_toArray, List.set_cons_zero, List.set_cons_succ])
            refine wpAnyH_take (i := 1) (v := ?_) rfl (by kernel_rfl) (by kernel_rfl) (by kernel_rfl) (fun _ _ _ h => h) (Or.inl ⟨by rfl, ?_⟩) (by assumption) ?_; rotate_left; focus ((intro w hSw; (try dsimp only at hSw); go_simp); try with_reducible rfl)
            (try simp only [Act.put, List.getElem_toArray, List.getElem_cons_succ, List.getElem_cons_zero, List.setIfInBounds_toArray, List.set_cons_zero, List.set_cons_succ])
            refine wpAnyH_take (i := 2) (v := undef) rfl (by kernel_rfl) (by kernel_rfl) (by kernel_rfl) (fun _ _ _ h => h) (Or.inr ⟨by rfl, rfl⟩) (by assumption) ?_
            (try simp only [Act.put, List.getElem_toArray, List.getElem_cons_succ, List.getElem_cons_zero, List.setIfInBounds_toArray, List.set_cons_zero, List.set_cons_succ])
            refine wpAnyH_take (i := 3) (v := undef) rfl (by kernel_rfl) (by kernel_rfl) (by kernel_rfl) (fun _ _ _ h => h) (Or.inr ⟨by rfl, rfl⟩) (by assumption) ?_
            (try simp only [Act.put, List.getElem_toArray, List.getElem_cons_succ, List.getElem_cons_zero, List.setIfInBounds_toArray, List.set_cons_zero, List.set_cons_succ])
            refine wpAnyH_take (i := 4) (v := undef) rfl (by kernel_rfl) (by kernel_rfl) (by kernel_rfl) (fun _ _ _ h => h) (Or.inr ⟨by rfl, rfl⟩) (by assumption) ?_
            (try simp only [Act.put, List.getElem_toArray, List.getElem_cons_succ, List.getElem_cons_zero, List.setIfInBounds_toArray, List.set_cons_zero, List.set_cons_succ])
            refine wpAnyH_take (i := 5) (v := undef) rfl (by kernel_rfl) (by kernel_rfl) (by kernel_rfl) (fun _ _ _ h => h) (Or.inr ⟨by rfl, rfl⟩) (by assumption) ?_
            (try simp only [Act.put, List.getElem_toArray, List.getElem_cons_succ, List.getElem_cons_zero, List.setIfInBounds_toArray, List.set_cons_zero, List.set_cons_succ])
            refine wpAnyH_take (i := 6) (v := undef) rfl (by kernel_rfl) (by kernel_rfl) (by kernel_rfl) (fun _ _ _ h => h) (Or.inr ⟨by rfl, rfl⟩) (by assumption) ?_
            (try simp only [Act.put, List.getElem_toArray, List.getElem_cons_succ, List.getElem_cons_zero, List.setIfInBounds_toArray, List.set_cons_zero, List.set_cons_succ])
            refine wpAnyH_take (i := 7) (v := undef) rfl (by kernel_rfl) (by kernel_rfl) (by kernel_rfl) (fun _ _ _ h => h) (Or.inr ⟨by rfl, rfl⟩) (by assumption) ?_
            (try simp only [Act.put, List.getElem_toArray, List.getElem_cons_succ, List.getElem_cons_zero, List.setIfInBounds_toArray, List.set_cons_zero, List.set_cons_succ])
            refine wpAnyH_take (i := 8) (v := undef) rfl (by kernel_rfl) (by kernel_rfl) (by kernel_rfl) (fun _ _ _ h => h) (Or.inr ⟨by rfl, rfl⟩) (by assumption) ?_
            (try simp only [Act.put, List.getElem_toArray, List.getElem_cons_succ, List.getElem_cons_zero, List.setIfInBounds_toArray, List.set_cons_zero, List.set_cons_succ])
            refine wpAnyH_take (i := 9) (v := undef) rfl (by kernel_rfl) (by kernel_rfl) (by kernel_rfl) (fun _ _ _ h => h) (Or.inr ⟨by rfl, rfl⟩) (by assumption) ?_
            (try simp only [Act.put, List.getElem_toArray, List.getElem_cons_succ, List.getElem_cons_zero, List.setIfInBounds_toArray, List.set_cons_zero, List.set_cons_succ])
            refine wpAnyH_take (i := 10) (v := ?_) rfl (by kernel_rfl) (by kernel_rfl) (by kernel_rfl) (fun _ _ _ h => h) (Or.inl ⟨by rfl, ?_⟩) (by assumption) ?_; rotate_left; focus ((intro w hSw; (try dsimp only at hSw); go_simp); try with_reducible rfl)
            (try simp only [Act.put, List.getElem_toArray, List.getElem_cons_succ, List.getElem_cons_zero, List.setIfInBounds_toArray, List.set_cons_zero, List.set_cons_succ])
            refine wpAnyH_take (i := 11) (v := ?_) rfl (by kernel_rfl) (by kernel_rfl) (by kernel_rfl) (fun _ _ _ h => h) (Or.inl ⟨by rfl, ?_⟩) (by assumption) ?_; rotate_left; focus ((intro w hSw; (try dsimp only at hSw); go_simp); try with_reducible rfl)
            (try simp only [Act.put, List.getElem_toArray, List.getElem_cons_succ, List.getElem_cons_zero, List.setIfInBounds_toArray, List.set_cons_zero, List.set_cons_succ])
            obtain ⟨g1, g2, hqV2⟩ := id hHeld
            refine wpAnyH_done (by kernel_rfl) ?_ _
            have hbq : Below w3.heap.size w3 (V1.drew) := below_step (below_step hb3r hqV1 hb3r.size) hqV2 (below_step hb3r hqV1 hb3r.size).size
            clear g1 g2 hHeld
            gi_wp2
            go_roundw
            case rel => exact ⟨i + 1, _, _, rfl, rfl, by go_num, by omega, Lib.hid (by rw [HT.out.1, ← Hl.out]; first | rfl | simp), Lib.hid (by rw [HT.out.2, ← Hd.out]; first | rfl | simp), hbq⟩
            case measure => simp [intOf]; omega
        | false =>
          cases d with
          | true =>
            gi_wp2_with fail
            refine wpIn_region_round (S := fun V => V.cell? ⟨b3, 0, none⟩ = some (.pointer (some ⟨p, 0, none⟩)) ∧ V.cell? ⟨bk, off + i * 3, none⟩ = some (.int .i32 (R : Nat)) ∧ Below wr.heap.size wr V) (by kernel_rfl) (by kernel_rfl) (fun h => by obtain ⟨_, _, h⟩ := h; exact h) ⟨d3, x1, (Below.refl _ _).drew⟩ (fun hHeld => ?_)
            refine wpAnyH_take (i := 0) (v := ?_) rfl (by kernel_rfl) (by kernel_rfl) (by kernel_rfl) (fun _ _ _ h => h) (Or.inl ⟨by rfl, ?_⟩) (by assumption) ?_; rotate_left; focus ((intro w hSw; (try dsimp only at hSw); go_simp); try with_reducible rfl)
            (try simp only [Act.put, List.getElem_toArray, List.getElem_cons_zero, List.setIfInBounds_toArray, List.set_cons_zero, List.set_cons_succ])
            refine wpAnyH_take (i := 1) (v := ?_) rfl (by kernel_rfl) (by kernel_rfl) (by kernel_rfl) (fun _ _ _ h => h) (Or.inl ⟨by rfl, ?_⟩) (by assumption) ?_; rotate_left; focus ((intro w hSw; (try dsimp only at hSw); go_simp); try with_reducible rfl)
            (try simp only [Act.put, List.getElem_toArray, List.getElem_cons_succ, List.getElem_cons_zero, List.setIfInBounds_toArray, List.set_cons_zero, List.set_cons_succ])
            refine wpAnyH_take (i := 2) (v := undef) rfl (by kernel_rfl) (by kernel_rfl) (by kernel_rfl) (fun _ _ _ h => h) (Or.inr ⟨by rfl, rfl⟩) (by assumption) ?_
            (try simp only [Act.put, List.getElem_toArray, List.getElem_cons_succ, List.getElem_cons_zero, List.setIfInBounds_toArray, List.set_cons_zero, List.set_cons_succ])
            refine wpAnyH_take (i := 3) (v := undef) rfl (by kernel_rfl) (by kernel_rfl) (by kernel_rfl) (fun _ _ _ h => h) (Or.inr ⟨by rfl, rfl⟩) (by assumption) ?_
            (try simp only [Act.put, List.getElem_toArray, List.getElem_cons_succ, List.getElem_cons_zero, List.setIfInBounds_toArray, List.set_cons_zero, List.set_cons_succ])
            refine wpAnyH_take (i := 4) (v := undef) rfl (by kernel_rfl) (by kernel_rfl) (by kernel_rfl) (fun _ _ _ h => h) (Or.inr ⟨by rfl, rfl⟩) (by assumption) ?_
            (try simp only [Act.put, List.getElem_toArray, List.getElem_cons_succ, List.getElem_cons_zero, List.setIfInBounds_toArray, List.set_cons_zero, List.set_cons_succ])
            refine wpAnyH_take (i := 5) (v := undef) rfl (by kernel_rfl) (by kernel_rfl) (by kernel_rfl) (fun _ _ _ h => h) (Or.inr ⟨by rfl, rfl⟩) (by assumption) ?_
            (try simp only [Act.put, List.getElem_toArray, List.getElem_cons_succ, List.getElem_cons_zero, List.setIfInBounds_toArray, List.set_cons_zero, List.set_cons_succ])
            refine wpAnyH_take (i := 6) (v := undef) rfl (by kernel_rfl) (by kernel_rfl) (by kernel_rfl) (fun _ _ _ h => h) (Or.inr ⟨by rfl, rfl⟩) (by assumption) ?_
            (try simp only [Act.put, List.getElem_toArray, List.getElem_cons_succ, List.getElem_cons_zero, List.setIfInBounds_toArray, List.set_cons_zero, List.set_cons_succ])
            refine wpAnyH_take (i := 7) (v := undef) rfl (by kernel_rfl) (by kernel_rfl) (by kernel_rfl) (fun _ _ _ h => h) (Or.inr ⟨by rfl, rfl⟩) (by assumption) ?_
            (try simp only [Act.put, List.getElem_toArray, List.getElem_cons_succ, List.getElem_cons_zero, List.setIfInBounds_toArray, List.set_cons_zero, List.set_cons_succ])
            refine wpAnyH_take (i := 8) (v := undef) rfl (by kernel_rfl) (by kernel_rfl) (by kernel_rfl) (fun _ _ _ h => h) (Or.inr ⟨by rfl, rfl⟩) (by assumption) ?_
            (try simp only [Act.put, List.getElem_toArray, List.getElem_cons_succ, List.getElem_cons_zero, List.setIfInBounds_toArray, List.set_cons_zero, List.set_cons_succ])
            refine wpAnyH_take (i := 9) (v := undef) rfl (by kernel_rfl) (by kernel_rfl) (by kernel_rfl) (fun _ _ _ h => h) (Or.inr ⟨by rfl, rfl⟩) (by assumption) ?_
            (try simp only [Act.put, List.getElem_toArray, List.getElem_cons_succ, List.getElem_cons_zero, List.setIfInBounds_toArray, List.set_cons_zero, List.set_cons_succ])
            refine wpAnyH_take (i := 10) (v := ?_) rfl (by kernel_rfl) (by kernel_rfl) (by kernel_rfl) (fun _ _ _ h => h) (Or.inl ⟨by rfl, ?_⟩) (by assumption) ?_; rotate_left; focus ((intro w hSw; (try dsimp only at hSw); go_simp); try with_reducible rfl)
            (try simp only [Act.put, List.getElem_toArray, List.getElem_cons_succ, List.getElem_cons_zero, List.setIfInBounds_toArray, List.set_cons_zero, List.set_cons_succ])
            refine wpAnyH_take (i := 11) (v := ?_) rfl (by kernel_rfl) (by kernel_rfl) (by kernel_rfl) (fun _ _ _ h => h) (Or.inl ⟨by rfl, ?_⟩) (by assumption) ?_; rotate_left; focus ((intro w hSw; (try dsimp only at hSw); go_simp); try with_reducible rfl)
            (try simp only [Act.put, List.getElem_toArray, List.getElem_cons_succ, List.getElem_cons_zero, List.setIfInBounds_toArray, List.set_cons_zero, List.set_cons_succ])
            obtain ⟨g1, g2, hqV1⟩ := id hHeld
            refine wpAnyH_done (by kernel_rfl) ?_ _
            have hbn1 := below_step hbn hqV1 hbn.size
            have d31 := g1
            have x11 := g2
            clear g1 g2 hHeld
            gi_wp2_with fail
            refine wpIn_region_round (S := fun V => V.cell? ⟨b3, 0, none⟩ = some (.pointer (some ⟨p, 0, none⟩)) ∧ V.cell? ⟨bk, off + i * 3, none⟩ = some (.int .i32 (R : Nat)) ∧ Below wr.drew.heap.size wr.drew V) (by kernel_rfl) (by kernel_rfl) (fun h => by obtain ⟨_, _, h⟩ := h; exact h) ⟨d31, x11, (Below.refl _ _).drew⟩ (fun hHeld => ?_)
            refine wpAnyH_take (i := 0) (v := ?_) rfl (by kernel_rfl) (by kernel_rfl) (by kernel_rfl) (fun _ _ _ h => h) (Or.inl ⟨by rfl, ?_⟩) (by assumption) ?_; rotate_left; focus ((intro w hSw; (try dsimp only at hSw); go_simp); try with_reducible rfl)
            (try simp only [Act.put, List.getElem_toArray, List.getElem_cons_zero, List.setIfInBounds_toArray, List.set_cons_zero, List.set_cons_succ])
            refine wpAnyH_take (i := 1) (v := ?_) rfl (by kernel_rfl) (by kernel_rfl) (by kernel_rfl) (fun _ _ _ h => h) (Or.inl ⟨by rfl, ?_⟩) (by assumption) ?_; rotate_left; focus ((intro w hSw; (try dsimp only at hSw); go_simp); try with_reducible rfl)
            (try simp only [Act.put, List.getElem_toArray, List.getElem_cons_succ, List.getElem_cons_zero, List.setIfInBounds_toArray, List.set_cons_zero, List.set_cons_succ])
            refine wpAnyH_take (i := 2) (v := ?_) rfl (by kernel_rfl) (by kernel_rfl) (by kernel_rfl) (fun _ _ _ h => h) (Or.inl ⟨by rfl, ?_⟩) (by assumption) ?_; rotate_left; focus ((intro w hSw; (try dsimp only at hSw); go_simp); try with_reducible rfl)
            (try simp only [Act.put, List.getElem_toArray, List.getElem_cons_succ, List.getElem_cons_zero, List.setIfInBounds_toArray, List.set_cons_zero, List.set_cons_succ])
            refine wpAnyH_take (i := 3) (v := ?_) rfl (by kernel_rfl) (by kernel_rfl) (by kernel_rfl) (fun _ _ _ h => h) (Or.inl ⟨by rfl, ?_⟩) (by assumption) ?_; rotate_left; focus ((intro w hSw; (try dsimp only at hSw); go_simp); try with_reducible rfl)
            (try simp only [Act.put, List.getElem_toArray, List.getElem_cons_succ, List.getElem_cons_zero, List.setIfInBounds_toArray, List.set_cons_zero, List.set_cons_succ])
            refine wpAnyH_take (i := 4) (v := ?_) rfl (by kernel_rfl) (by kernel_rfl) (by kernel_rfl) (fun _ _ _ h => h) (Or.inl ⟨by rfl, ?_⟩) (by assumption) ?_; rotate_left; focus ((intro w hSw; (try dsimp only at hSw); go_simp); try with_reducible rfl)
            (try simp only [Act.put, List.getElem_toArray, List.getElem_cons_succ, List.getElem_cons_zero, List.setIfInBounds_toArray, List.set_cons_zero, List.set_cons_succ])
            refine wpAnyH_take (i := 5) (v := ?_) rfl (by kernel_rfl) (by kernel_rfl) (by kernel_rfl) (fun _ _ _ h => h) (Or.inl ⟨by rfl, ?_⟩) (by assumption) ?_; rotate_left; focus ((intro w hSw; (try dsimp only at hSw); go_simp); try with_reducible rfl)
            (try simp only [Act.put, List.getElem_toArray, List.getElem_cons_succ, List.getElem_cons_zero, List.setIfInBounds_toArray, List.set_cons_zero, List.set_cons_succ])
            refine wpAnyH_take (i := 6) (v := ?_) rfl (by kernel_rfl) (by kernel_rfl) (by kernel_rfl) (fun _ _ _ h => h) (Or.inl ⟨by rfl, ?_⟩) (by assumption) ?_; rotate_left; focus ((intro w hSw; (try dsimp only at hSw); go_simp); try with_reducible rfl)
            (try simp only [Act.put, List.getElem_toArray, List.getElem_cons_succ, List.getElem_cons_zero, List.setIfInBounds_toArray, List.set_cons_zero, List.set_cons_succ])
            refine wpAnyH_take (i := 7) (v := ?_) rfl (by kernel_rfl) (by kernel_rfl) (by kernel_rfl) (fun _ _ _ h => h) (Or.inl ⟨by rfl, ?_⟩) (by assumption) ?_; rotate_left; focus ((intro w hSw; (try dsimp only at hSw); go_simp); try with_reducible rfl)
            (try simp only [Act.put, List.getElem_toArray, List.getElem_cons_succ, List.getElem_cons_zero, List.setIfInBounds_toArray, List.set_cons_zero, List.set_cons_succ])
            refine wpAnyH_ready (rs := [8]) (by kernel_rfl) (by simp) ?_
            refine AllReadyH.cons rfl (fun K hK => ?_) AllReadyH.nil
            obtain ⟨g1, g2, g3⟩ := hHeld
            (try go_simp)
            refine (HN.out _ (below_step hbn1 g3 hbn1.size)).mono ?_
            rintro e V2 ⟨rfl, hbV2⟩
            (try go_simp)
            refine hK.out _ _ ⟨cell_keep g1 hbV2, cell_keep g2 hbV2, below_step g3 hbV2 g3.size⟩ (fun hHeld => ?_)
            clear hK K
            (try simp only [Act.put, List.getElem_toArray, List.getElem_cons_succ, List.getElem_cons_zero, List.setIfInBounds_toArray, List.set_cons_zero, List.set_cons_succ])
            refine wpAnyH_take (i := 9) (v := ?_) rfl (by kernel_rfl) (by kernel_rfl) (by kernel_rfl) (fun _ _ _ h => h) (Or.inl ⟨by rfl, ?_⟩) (by assumption) ?_; rotate_left; focus ((intro w hSw; (try dsimp only at hSw); go_simp); try with_reducible rfl)
            (try simp only [Act.put, List.getElem_toArray, List.getElem_cons_succ, List.getElem_cons_zero, List.setIfInBounds_toArray, List.set_cons_zero, List.set_cons_succ])
            refine wpAnyH_take (i := 10) (v := ?_) rfl (by kernel_rfl) (by kernel_rfl) (by kernel_rfl) (fun _ _ _ h => h) (Or.inl ⟨by rfl, ?_⟩) (by assumption) ?_; rotate_left; focus ((intro w hSw; (try dsimp only at hSw); go_simp); try with_reducible rfl)
            (try simp only [Act.put, List.getElem_toArray, List.getElem_cons_succ, List.getElem_cons_zero, List.setIfInBounds_toArray, List.set_cons_zero, List.set_cons_succ])
            refine wpAnyH_take (i := 11) (v := ?_) rfl (by kernel_rfl) (by kernel_rfl) (by kernel_rfl) (fun _ _ _ h => h) (Or.inl ⟨by rfl, ?_⟩) (by assumption) ?_; rotate_left; focus ((intro w hSw; (try dsimp only at hSw); go_simp); try with_reducible rfl)
            (try simp only [Act.put, List.getElem_toArray, List.getElem_cons_succ, List.getElem_cons_zero, List.setIfInBounds_toArray, List.set_cons_zero, List.set_cons_succ])
            obtain ⟨g1, g2, hqV2⟩ := id hHeld
            refine wpAnyH_done (by kernel_rfl) ?_ _
            have hbq : Below w3.heap.size w3 (V2) := below_step (below_step hb3r hqV1 hb3r.size) hqV2 (below_step hb3r hqV1 hb3r.size).size
            clear g1 g2 hHeld
            gi_wp2
            go_roundw
            case rel => exact ⟨i + 1, _, _, rfl, rfl, by go_num, by omega, Lib.hid (by rw [HT.out.1, ← Hl.out]; first | rfl | simp), Lib.hid (by rw [HT.out.2, ← Hd.out]; first | rfl | simp), hbq⟩
            case measure => simp [intOf]; omega
          | false =>
            gi_wp2_with fail
            refine wpIn_region_round (S := fun V => V.cell? ⟨b3, 0, none⟩ = some (.pointer (some ⟨p, 0, none⟩)) ∧ V.cell? ⟨bk, off + i * 3, none⟩ = some (.int .i32 (R : Nat)) ∧ Below wr.heap.size wr V) (by kernel_rfl) (by kernel_rfl) (fun h => by obtain ⟨_, _, h⟩ := h; exact h) ⟨d3, x1, (Below.refl _ _).drew⟩ (fun hHeld => ?_)
            refine wpAnyH_take (i := 0) (v := ?_) rfl (by kernel_rfl) (by kernel_rfl) (by kernel_rfl) (fun _ _ _ h => h) (Or.inl ⟨by rfl, ?_⟩) (by assumption) ?_; rotate_left; focus ((intro w hSw; (try dsimp only at hSw); go_simp); try with_reducible rfl)
            (try simp only [Act.put, List.getElem_toArray, List.getElem_cons_zero, List.setIfInBounds_toArray, List.set_cons_zero, List.set_cons_succ])
            refine wpAnyH_take (i := 1) (v := ?_) rfl (by kernel_rfl) (by kernel_rfl) (by kernel_rfl) (fun _ _ _ h => h) (Or.inl ⟨by rfl, ?_⟩) (by assumption) ?_; rotate_left; focus ((intro w hSw; (try dsimp only at hSw); go_simp); try with_reducible rfl)
            (try simp only [Act.put, List.getElem_toArray, List.getElem_cons_succ, List.getElem_cons_zero, List.setIfInBounds_toArray, List.set_cons_zero, List.set_cons_succ])
            refine wpAnyH_take (i := 2) (v := undef) rfl (by kernel_rfl) (by kernel_rfl) (by kernel_rfl) (fun _ _ _ h => h) (Or.inr ⟨by rfl, rfl⟩) (by assumption) ?_
            (try simp only [Act.put, List.getElem_toArray, List.getElem_cons_succ, List.getElem_cons_zero, List.setIfInBounds_toArray, List.set_cons_zero, List.set_cons_succ])
            refine wpAnyH_take (i := 3) (v := undef) rfl (by kernel_rfl) (by kernel_rfl) (by kernel_rfl) (fun _ _ _ h => h) (Or.inr ⟨by rfl, rfl⟩) (by assumption) ?_
            (try simp only [Act.put, List.getElem_toArray, List.getElem_cons_succ, List.getElem_cons_zero, List.setIfInBounds_toArray, List.set_cons_zero, List.set_cons_succ])
            refine wpAnyH_take (i := 4) (v := undef) rfl (by kernel_rfl) (by kernel_rfl) (by kernel_rfl) (fun _ _ _ h => h) (Or.inr ⟨by rfl, rfl⟩) (by assumption) ?_
            (try simp only [Act.put, List.getElem_toArray, List.getElem_cons_succ, List.getElem_cons_zero, List.setIfInBounds_toArray, List.set_cons_zero, List.set_cons_succ])
            refine wpAnyH_take (i := 5) (v := undef) rfl (by kernel_rfl) (by kernel_rfl) (by kernel_rfl) (fun _ _ _ h => h) (Or.inr ⟨by rfl, rfl⟩) (by assumption) ?_
            (try simp only [Act.put, List.getElem_toArray, List.getElem_cons_succ, List.getElem_cons_zero, List.setIfInBounds_toArray, List.set_cons_zero, List.set_cons_succ])
            refine wpAnyH_take (i := 6) (v := undef) rfl (by kernel_rfl) (by kernel_rfl) (by kernel_rfl) (fun _ _ _ h => h) (Or.inr ⟨by rfl, rfl⟩) (by assumption) ?_
            (try simp only [Act.put, List.getElem_toArray, List.getElem_cons_succ, List.getElem_cons_zero, List.setIfInBounds_toArray, List.set_cons_zero, List.set_cons_succ])
            refine wpAnyH_take (i := 7) (v := undef) rfl (by kernel_rfl) (by kernel_rfl) (by kernel_rfl) (fun _ _ _ h => h) (Or.inr ⟨by rfl, rfl⟩) (by assumption) ?_
            (try simp only [Act.put, List.getElem_toArray, List.getElem_cons_succ, List.getElem_cons_zero, List.setIfInBounds_toArray, List.set_cons_zero, List.set_cons_succ])
            refine wpAnyH_take (i := 8) (v := undef) rfl (by kernel_rfl) (by kernel_rfl) (by kernel_rfl) (fun _ _ _ h => h) (Or.inr ⟨by rfl, rfl⟩) (by assumption) ?_
            (try simp only [Act.put, List.getElem_toArray, List.getElem_cons_succ, List.getElem_cons_zero, List.setIfInBounds_toArray, List.set_cons_zero, List.set_cons_succ])
            refine wpAnyH_take (i := 9) (v := undef) rfl (by kernel_rfl) (by kernel_rfl) (by kernel_rfl) (fun _ _ _ h => h) (Or.inr ⟨by rfl, rfl⟩) (by assumption) ?_
            (try simp only [Act.put, List.getElem_toArray, List.getElem_cons_succ, List.getElem_cons_zero, List.setIfInBounds_toArray, List.set_cons_zero, List.set_cons_succ])
            refine wpAnyH_take (i := 10) (v := ?_) rfl (by kernel_rfl) (by kernel_rfl) (by kernel_rfl) (fun _ _ _ h => h) (Or.inl ⟨by rfl, ?_⟩) (by assumption) ?_; rotate_left; focus ((intro w hSw; (try dsimp only at hSw); go_simp); try with_reducible rfl)
            (try simp only [Act.put, List.getElem_toArray, List.getElem_cons_succ, List.getElem_cons_zero, List.setIfInBounds_toArray, List.set_cons_zero, List.set_cons_succ])
            refine wpAnyH_take (i := 11) (v := ?_) rfl (by kernel_rfl) (by kernel_rfl) (by kernel_rfl) (fun _ _ _ h => h) (Or.inl ⟨by rfl, ?_⟩) (by assumption) ?_; rotate_left; focus ((intro w hSw; (try dsimp only at hSw); go_simp); try with_reducible rfl)
            (try simp only [Act.put, List.getElem_toArray, List.getElem_cons_succ, List.getElem_cons_zero, List.setIfInBounds_toArray, List.set_cons_zero, List.set_cons_succ])
            obtain ⟨g1, g2, hqV1⟩ := id hHeld
            refine wpAnyH_done (by kernel_rfl) ?_ _
            have hbn1 := below_step hbn hqV1 hbn.size
            have d31 := g1
            have x11 := g2
            clear g1 g2 hHeld
            gi_wp2_with fail
            refine wpIn_region_round (S := fun V => V.cell? ⟨b3, 0, none⟩ = some (.pointer (some ⟨p, 0, none⟩)) ∧ V.cell? ⟨bk, off + i * 3, none⟩ = some (.int .i32 (R : Nat)) ∧ Below wr.drew.heap.size wr.drew V) (by kernel_rfl) (by kernel_rfl) (fun h => by obtain ⟨_, _, h⟩ := h; exact h) ⟨d31, x11, (Below.refl _ _).drew⟩ (fun hHeld => ?_)
            refine wpAnyH_take (i := 0) (v := ?_) rfl (by kernel_rfl) (by kernel_rfl) (by kernel_rfl) (fun _ _ _ h => h) (Or.inl ⟨by rfl, ?_⟩) (by assumption) ?_; rotate_left; focus ((intro w hSw; (try dsimp only at hSw); go_simp); try with_reducible rfl)
            (try simp only [Act.put, List.getElem_toArray, List.getElem_cons_zero, List.setIfInBounds_toArray, List.set_cons_zero, List.set_cons_succ])
            refine wpAnyH_take (i := 1) (v := ?_) rfl (by kernel_rfl) (by kernel_rfl) (by kernel_rfl) (fun _ _ _ h => h) (Or.inl ⟨by rfl, ?_⟩) (by assumption) ?_; rotate_left; focus ((intro w hSw; (try dsimp only at hSw); go_simp); try with_reducible rfl)
            (try simp only [Act.put, List.getElem_toArray, List.getElem_cons_succ, List.getElem_cons_zero, List.setIfInBounds_toArray, List.set_cons_zero, List.set_cons_succ])
            refine wpAnyH_take (i := 2) (v := undef) rfl (by kernel_rfl) (by kernel_rfl) (by kernel_rfl) (fun _ _ _ h => h) (Or.inr ⟨by rfl, rfl⟩) (by assumption) ?_
            (try simp only [Act.put, List.getElem_toArray, List.getElem_cons_succ, List.getElem_cons_zero, List.setIfInBounds_toArray, List.set_cons_zero, List.set_cons_succ])
            refine wpAnyH_take (i := 3) (v := undef) rfl (by kernel_rfl) (by kernel_rfl) (by kernel_rfl) (fun _ _ _ h => h) (Or.inr ⟨by rfl, rfl⟩) (by assumption) ?_
            (try simp only [Act.put, List.getElem_toArray, List.getElem_cons_succ, List.getElem_cons_zero, List.setIfInBounds_toArray, List.set_cons_zero, List.set_cons_succ])
            refine wpAnyH_take (i := 4) (v := undef) rfl (by kernel_rfl) (by kernel_rfl) (by kernel_rfl) (fun _ _ _ h => h) (Or.inr ⟨by rfl, rfl⟩) (by assumption) ?_
            (try simp only [Act.put, List.getElem_toArray, List.getElem_cons_succ, List.getElem_cons_zero, List.setIfInBounds_toArray, List.set_cons_zero, List.set_cons_succ])
            refine wpAnyH_take (i := 5) (v := undef) rfl (by kernel_rfl) (by kernel_rfl) (by kernel_rfl) (fun _ _ _ h => h) (Or.inr ⟨by rfl, rfl⟩) (by assumption) ?_
            (try simp only [Act.put, List.getElem_toArray, List.getElem_cons_succ, List.getElem_cons_zero, List.setIfInBounds_toArray, List.set_cons_zero, List.set_cons_succ])
            refine wpAnyH_take (i := 6) (v := undef) rfl (by kernel_rfl) (by kernel_rfl) (by kernel_rfl) (fun _ _ _ h => h) (Or.inr ⟨by rfl, rfl⟩) (by assumption) ?_
            (try simp only [Act.put, List.getElem_toArray, List.getElem_cons_succ, List.getElem_cons_zero, List.setIfInBounds_toArray, List.set_cons_zero, List.set_cons_succ])
            refine wpAnyH_take (i := 7) (v := undef) rfl (by kernel_rfl) (by kernel_rfl) (by kernel_rfl) (fun _ _ _ h => h) (Or.inr ⟨by rfl, rfl⟩) (by assumption) ?_
            (try simp only [Act.put, List.getElem_toArray, List.getElem_cons_succ, List.getElem_cons_zero, List.setIfInBounds_toArray, List.set_cons_zero, List.set_cons_succ])
            refine wpAnyH_take (i := 8) (v := undef) rfl (by kernel_rfl) (by kernel_rfl) (by kernel_rfl) (fun _ _ _ h => h) (Or.inr ⟨by rfl, rfl⟩) (by assumption) ?_
            (try simp only [Act.put, List.getElem_toArray, List.getElem_cons_succ, List.getElem_cons_zero, List.setIfInBounds_toArray, List.set_cons_zero, List.set_cons_succ])
            refine wpAnyH_take (i := 9) (v := undef) rfl (by kernel_rfl) (by kernel_rfl) (by kernel_rfl) (fun _ _ _ h => h) (Or.inr ⟨by rfl, rfl⟩) (by assumption) ?_
            (try simp only [Act.put, List.getElem_toArray, List.getElem_cons_succ, List.getElem_cons_zero, List.setIfInBounds_toArray, List.set_cons_zero, List.set_cons_succ])
            refine wpAnyH_take (i := 10) (v := ?_) rfl (by kernel_rfl) (by kernel_rfl) (by kernel_rfl) (fun _ _ _ h => h) (Or.inl ⟨by rfl, ?_⟩) (by assumption) ?_; rotate_left; focus ((intro w hSw; (try dsimp only at hSw); go_simp); try with_reducible rfl)
            (try simp only [Act.put, List.getElem_toArray, List.getElem_cons_succ, List.getElem_cons_zero, List.setIfInBounds_toArray, List.set_cons_zero, List.set_cons_succ])
            refine wpAnyH_take (i := 11) (v := ?_) rfl (by kernel_rfl) (by kernel_rfl) (by kernel_rfl) (fun _ _ _ h => h) (Or.inl ⟨by rfl, ?_⟩) (by assumption) ?_; rotate_left; focus ((intro w hSw; (try dsimp only at hSw); go_simp); try with_reducible rfl)
            (try simp only [Act.put, List.getElem_toArray, List.getElem_cons_succ, List.getElem_cons_zero, List.setIfInBounds_toArray, List.set_cons_zero, List.set_cons_succ])
            obtain ⟨g1, g2, hqV2⟩ := id hHeld
            refine wpAnyH_done (by kernel_rfl) ?_ _
            have hbq : Below w3.heap.size w3 (wr.drew.drew) := below_step (below_step hb3r hqV1 hb3r.size) hqV2 (below_step hb3r hqV1 hb3r.size).size
            clear g1 g2 hHeld
            gi_wp2
            go_roundw
            case rel => exact ⟨i + 1, _, _, rfl, rfl, by go_num, by omega, Lib.hid (by rw [HT.out.1, ← Hl.out]; first | rfl | simp), Lib.hid (by rw [HT.out.2, ← Hd.out]; first | rfl | simp), hbq⟩
            case measure => simp [intOf]; omega
      · obtain rfl : i = m := by omega
        have hXt : X.take i = X := List.take_of_length_le (by have := Hm.out; omega)
        rw [hXt] at Hl Hd
        have hEr := hE1.below hbn
        cases l with
        | true =>
          gi_wp2_with fail
          refine ⟨trivial, ?_⟩
          refine (CallsIn.inRound l2 (callsIn_wide.2 (HB.out _ hEr))).mono ?_
          rintro e w4 ⟨A4, n4, c4, rfl, o4, hb4⟩
          have Hn4 : Hid ((wBounds gW t).length = n4) := Lib.hid (by have h := o4.len; rw [List.length_map] at h; exact h)
          have hn4z : n4 ≤ 71 := by have := Hn4.out; omega
          have hb44 := below_step hbr hb4 hbr.size
          clear o4
          by_cases h2 : n4 = 2
          · subst h2
            obtain ⟨K, HKc⟩ : ∃ K, Hid ((wordsP t).length = K) := ⟨_, Lib.hid rfl⟩
            have HC2 := Lib.hid (HC.out _ (hEr.below hb4))
            rw [HKc.out] at HC2
            have hKz : K ≤ 70 := by have := HKc.out; omega
            gi_wp2_with fail
            refine ⟨trivial, ?_⟩
            refine (CallsIn.inRound l2 (callsIn_wide.2 HC2.out)).mono ?_
            rintro e w5 ⟨rfl, hb5⟩
            have hb55 := below_step hb44 hb5 hb44.size
            by_cases hK1 : K = 1
            · subst hK1
              have hEk := hE1.below (below_step hbW hb55 hbW.size)
              obtain ⟨k, Hk⟩ : ∃ k, Hid (kindC (wCls gW t) = k) := ⟨_, Lib.hid rfl⟩
              have HK2 := Lib.hid (HK.out _ hEk)
              rw [Hk.out] at HK2
              gi_wp2_with fail
              refine ⟨trivial, ?_⟩
              refine (CallsIn.inRound l2 (callsIn_wide.2 HK2.out)).mono ?_
              rintro e w6 ⟨rfl, hb6⟩
              have hb66 := below_step hb55 hb6 hb55.size
              by_cases hk3 : k < 3
              · have e2 := (D2.below hb66).cell 0
                have f2 := (D2.below hb66).frozen 0
                simp only [List.getElem?_toArray, List.getElem?_cons_zero] at e2
                gi_wp2
                exact ⟨(keepsFrom_below hb66).trans ((KeepsOthers.setCell _ _ _).from _), rfl, fun hp => by have := HKd.out hp; rw [Hk.out] at this; omega⟩
              · gi_wp2
                exact ⟨keepsFrom_below hb66, ⟨hb66.mono hbW.size, kcQ_below hb66⟩, below_step hbW hb66 hbW.size⟩
            · have q1 : ((K : Int) != 1) = true := by rw [bne_iff_ne]; omega
              have e2 := (D2.below hb55).cell 0
              have f2 := (D2.below hb55).frozen 0
              simp only [List.getElem?_toArray, List.getElem?_cons_zero] at e2
              gi_wp2
              exact ⟨(keepsFrom_below hb55).trans ((KeepsOthers.setCell _ _ _).from _), rfl, fun hp => hK1 (by have := (HAl.out hp (.inl Hl.out.symm)).2; rw [HKc.out] at this; exact this)⟩
          · have q2 : ((n4 : Int) != 2) = true := by rw [bne_iff_ne]; omega
            have e2 := (D2.below hb44).cell 0
            have f2 := (D2.below hb44).frozen 0
            simp only [List.getElem?_toArray, List.getElem?_cons_zero] at e2
            gi_wp2_with fail
            refine ⟨trivial, ?_⟩
            gi_wp2
            exact ⟨(keepsFrom_below hb44).trans ((KeepsOthers.setCell _ _ _).from _), rfl, fun hp => h2 (by have := (HAl.out hp (.inl Hl.out.symm)).1; rw [Hn4.out] at this; exact this)⟩
        | false =>
          cases d with
          | true =>
            gi_wp2_with fail
            refine ⟨trivial, ?_⟩
            refine (CallsIn.inRound l2 (callsIn_wide.2 (HB.out _ hEr))).mono ?_
            rintro e w4 ⟨A4, n4, c4, rfl, o4, hb4⟩
            have Hn4 : Hid ((wBounds gW t).length = n4) := Lib.hid (by have h := o4.len; rw [List.length_map] at h; exact h)
            have hn4z : n4 ≤ 71 := by have := Hn4.out; omega
            have hb44 := below_step hbr hb4 hbr.size
            clear o4
            by_cases h2 : n4 = 2
            · subst h2
              obtain ⟨K, HKc⟩ : ∃ K, Hid ((wordsP t).length = K) := ⟨_, Lib.hid rfl⟩
              have HC2 := Lib.hid (HC.out _ (hEr.below hb4))
              rw [HKc.out] at HC2
              have hKz : K ≤ 70 := by have := HKc.out; omega
              gi_wp2_with fail
              refine ⟨trivial, ?_⟩
              refine (CallsIn.inRound l2 (callsIn_wide.2 HC2.out)).mono ?_
              rintro e w5 ⟨rfl, hb5⟩
              have hb55 := below_step hb44 hb5 hb44.size
              by_cases hK1 : K = 1
              · subst hK1
                have hEk := hE1.below (below_step hbW hb55 hbW.size)
                obtain ⟨k, Hk⟩ : ∃ k, Hid (kindC (wCls gW t) = k) := ⟨_, Lib.hid rfl⟩
                have HK2 := Lib.hid (HK.out _ hEk)
                rw [Hk.out] at HK2
                gi_wp2_with fail
                refine ⟨trivial, ?_⟩
                refine (CallsIn.inRound l2 (callsIn_wide.2 HK2.out)).mono ?_
                rintro e w6 ⟨rfl, hb6⟩
                have hb66 := below_step hb55 hb6 hb55.size
                by_cases hk3 : k < 3
                · have e2 := (D2.below hb66).cell 0
                  have f2 := (D2.below hb66).frozen 0
                  simp only [List.getElem?_toArray, List.getElem?_cons_zero] at e2
                  gi_wp2
                  exact ⟨(keepsFrom_below hb66).trans ((KeepsOthers.setCell _ _ _).from _), rfl, fun hp => by have := HKd.out hp; rw [Hk.out] at this; omega⟩
                · gi_wp2
                  exact ⟨keepsFrom_below hb66, ⟨hb66.mono hbW.size, kcQ_below hb66⟩, below_step hbW hb66 hbW.size⟩
              · have q1 : ((K : Int) != 1) = true := by rw [bne_iff_ne]; omega
                have e2 := (D2.below hb55).cell 0
                have f2 := (D2.below hb55).frozen 0
                simp only [List.getElem?_toArray, List.getElem?_cons_zero] at e2
                gi_wp2
                exact ⟨(keepsFrom_below hb55).trans ((KeepsOthers.setCell _ _ _).from _), rfl, fun hp => hK1 (by have := (HAl.out hp (.inr Hd.out.symm)).2; rw [HKc.out] at this; exact this)⟩
            · have q2 : ((n4 : Int) != 2) = true := by rw [bne_iff_ne]; omega
              have e2 := (D2.below hb44).cell 0
              have f2 := (D2.below hb44).frozen 0
              simp only [List.getElem?_toArray, List.getElem?_cons_zero] at e2
              gi_wp2_with fail
              refine ⟨trivial, ?_⟩
              gi_wp2
              exact ⟨(keepsFrom_below hb44).trans ((KeepsOthers.setCell _ _ _).from _), rfl, fun hp => h2 (by have := (HAl.out hp (.inr Hd.out.symm)).1; rw [Hn4.out] at this; exact this)⟩
          | false =>
            have hEk := hE1.below (below_step hbW hbr hbW.size)
            obtain ⟨k, Hk⟩ : ∃ k, Hid (kindC (wCls gW t) = k) := ⟨_, Lib.hid rfl⟩
            have HK2 := Lib.hid (HK.out _ hEk)
            rw [Hk.out] at HK2
            gi_wp2_with fail
            refine ⟨trivial, ?_⟩
            gi_wp2_with fail
            all_goals try (exfalso; rename_i hz1 hz2; injection hz1 with hz1; cases hz1; done)
            refine ⟨trivial, ?_⟩
            gi_wp2_with fail
            refine ⟨trivial, ?_⟩
            refine (CallsIn.inRound l2 (callsIn_wide.2 HK2.out)).mono ?_
            rintro e w6 ⟨rfl, hb6⟩
            have hb66 := below_step hbr hb6 hbr.size
            by_cases hk3 : k < 3
            · have e2 := (D2.below hb66).cell 0
              have f2 := (D2.below hb66).frozen 0
              simp only [List.getElem?_toArray, List.getElem?_cons_zero] at e2
              gi_wp2
              exact ⟨(keepsFrom_below hb66).trans ((KeepsOthers.setCell _ _ _).from _), rfl, fun hp => by have := HKd.out hp; rw [Hk.out] at this; omega⟩
            · gi_wp2
              exact ⟨keepsFrom_below hb66, ⟨hb66.mono hbW.size, kcQ_below hb66⟩, below_step hbW hb66 hbW.size⟩
end Go.Proofs.YthlnfefpdmecaaaGreatDoor

