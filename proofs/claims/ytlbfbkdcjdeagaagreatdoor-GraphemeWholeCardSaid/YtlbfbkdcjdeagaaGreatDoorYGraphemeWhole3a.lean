/-
  Several texts in one, in their build order: Gi, Gj.
-/
import Derived.Test.YtlbfbkdcjdeagaaGreatDoorYGraphemeWholeGf
import Derived.Test.YtlbfbkdcjdeagaaGreatDoorYGraphemeWhole2a
import Derived.Test.YtlbfbkdcjdeagaaGreatDoorYGraphemeWhole0a
/-
  kerflaw11.live, walked.
-/
namespace Go.Proofs.YtlbfbkdcjdeagaaGreatDoor
open Go.RowKit

set_option maxRecDepth 100000 in
set_option maxHeartbeats 4000000 in
theorem glive_any (w : World) (hE : Env w) : Calls Tryz.prog 39 #[] w fun e w' => e = .returned (.bool true) ∧ Below w.heap.size w w' := by
  have H1 := Lib.hid (gBounds_any ⟨#[101, 204, 129, 120, 13, 10]⟩ w hE (by decide))
  have H2 := Lib.hid (fun W (h : Env W) => gCount_any ⟨#[240, 159, 135, 166, 240, 159, 135, 167, 240, 159, 135, 168]⟩ W h (by decide))
  have H3 := Lib.hid (fun W (h : Env W) => gTurn_any ⟨#[101, 204, 129, 120]⟩ W h (by decide))
  have H4 := Lib.hid (fun W (h : Env W) => gNext_any ⟨#[101, 204, 129, 120]⟩ 0 W h (by decide))
  rw [glive_bounds] at H1
  simp only [glive_count] at H2
  simp only [glive_turn] at H3
  simp only [glive_next] at H4
  go_enter Tryz.func39, Tryz.ntmps39
  go_wp2_with fail
  refine H1.out.mono ?_
  rintro e w1 ⟨A, n, c, rfl, ho, hb1⟩
  obtain rfl : 4 = n := ho.len
  have hb4 : Below w.heap.size w (w1.alloc (.cells #[.int .i64 0, .int .i64 3, .int .i64 4, .int .i64 6] 3)) := hb1.alloc hb1.size _
  have ho := ho.alloc (.cells #[.int .i64 0, .int .i64 3, .int .i64 4, .int .i64 6] 3)
  have hr := Rd.manyQ w1 3 1 ([(0 : Nat), 3, 4, 6].map encN) #[.int .i64 0, .int .i64 3, .int .i64 4, .int .i64 6] rfl (by intro x hx; obtain ⟨y, _, rfl⟩ := List.mem_map.1 hx; rfl)
  have HY := Lib.hid (zPlaces_same A (some ⟨w1.heap.size, 0, none⟩) 4 c 4 [0, 3, 4, 6] _ (ho.rd (by decide)) hr rfl (by omega))
  clear H1 hr ho
  go_wp2_with fail
  refine HY.out.mono ?_
  rintro e w3 ⟨rfl, hb5⟩
  have hb6 := below_step hb4 hb5 hb4.size
  go_wp2_with fail
  refine (H2.out _ (hE.below hb6)).mono ?_
  rintro e w4 ⟨rfl, hb7⟩
  have hb8 := below_step hb6 hb7 hb6.size
  go_wp2_with fail
  refine (H3.out _ (hE.below hb8)).mono ?_
  rintro e w5 ⟨rfl, hb9⟩
  have hb10 := below_step hb8 hb9 hb8.size
  go_wp2_with fail
  refine (H4.out _ (hE.below hb10)).mono ?_
  rintro e w6 ⟨rfl, hb11⟩
  have hb12 := below_step hb10 hb11 hb10.size
  go_wp2
  go_ret
  exact ⟨rfl, hb12⟩
end Go.Proofs.YtlbfbkdcjdeagaaGreatDoor

/-
  kerflaw11.GraphemePlain, walked.
-/
namespace Go.Proofs.YtlbfbkdcjdeagaaGreatDoor
open Go.RowKit

/-- The runes from the place k on, the last one first. -/
def revR (L : List (Nat × Nat × Nat)) (k : Nat) : List Int := ((L.drop k).map fun x => ((x.1 : Nat) : Int)).reverse
theorem revR_step {L : List (Nat × Nat × Nat)} {k : Nat} {x : Nat × Nat × Nat} (h : L[k]? = some x) : revR L k = revR L (k + 1) ++ [((x.1 : Nat) : Int)] := by
  unfold revR
  rw [List.drop_eq_getElem_cons (List.getElem?_eq_some_iff.1 h).1, List.map_cons, List.reverse_cons, (List.getElem?_eq_some_iff.1 h).2]
theorem hor_keep {W V : World} {B : Nat} {A A2 : Option Addr} {n c : Nat} {e : TypeId} {cs : List (List Value)} {o : Obj} (h : Own W B e 1 A n c cs) (hg : (W.alloc o).grownBy V (A2.map (·.block))) (hA : ∀ a, A2 = some a → ∀ b, A = some b → b.block < a.block) : Own V B e 1 A n c cs :=
  h.keep fun a ha => (hg.block a.block (by have := (h.lt a ha).2; simp; omega) (fun e => by
    cases A2 with
    | none => cases e
    | some a2 => simp at e; have := hA a2 rfl a ha; omega)).trans (Below.heap_alloc _ _ _ (h.lt a ha).2)
def encI32 (r : Int) : List Value := [.int .i32 r]
set_option maxRecDepth 100000 in
set_option maxHeartbeats 8000000 in
theorem mPlain_any (s : ByteArray) (w : World) (hE : Env w) (hs : s.size ≤ 140737488355328) :
    Calls Tryz.prog 14 #[.string s] w fun e w' => e = .returned (.bool true) ∧ Below w.heap.size w w' := by
  obtain ⟨i0, hi0, hz0, hz1, hz2⟩ := info_parts infoI32
  have HLv := Lib.hid (fun W (h : Env W) => glive_any W h)
  by_cases h1 : 120 < s.size
  · have g1 : (120 : Int) < (s.size : Int) := by omega
    go_enter Tryz.func14, Tryz.ntmps14
    go_wp2_with fail
    refine (HLv.out _ hE).mono ?_
    rintro e w1 ⟨rfl, hb⟩
    go_wp2
    go_ret
    exact ⟨rfl, hb⟩
  have g1 : ¬ (120 : Int) < (s.size : Int) := by omega
  have hsz : s.size ≤ 120 := by omega
  have HV := Lib.hid (uValid_any s w hE.tabs (by omega))
  have HQ := Lib.hid (valid_whole s)
  obtain ⟨q, Hq⟩ : ∃ q, Hid (Lib.validD s.data.toList = q) := ⟨_, Lib.hid rfl⟩
  rw [Hq.out] at HV
  have HR := Lib.hid (fun W => eRunes_any s W (by omega))
  obtain ⟨X, HX⟩ : ∃ L, Hid (runesP s = L) := ⟨_, Lib.hid rfl⟩
  have hXz : X.length ≤ 120 := by rw [← HX.out]; exact Nat.le_trans (runesP_len s) hsz
  have HC := Lib.hid (fun r W (h : Env W) => gClass_any r W h)
  clear h1 hs
  go_enter Tryz.func14, Tryz.ntmps14
  go_wp2_with fail
  refine HV.out.mono ?_
  rintro e w1 ⟨rfl, hb1⟩
  have hE1 := hE.below hb1
  cases q with
  | false =>
    go_wp2_with fail
    refine (HLv.out _ hE1).mono ?_
    rintro e w2 ⟨rfl, hb2⟩
    go_wp2
    go_ret
    exact ⟨rfl, below_two hb1 hb2⟩
  | true =>
    have HW : Hid (WholeP s) := Lib.hid (HQ.out.1 Hq.out)
    clear HQ Hq
    go_wp2_with fail
    refine (HR.out _).mono ?_
    rw [HX.out]
    rintro e w2 ⟨A, n, c, rfl, ho, hb2⟩
    have hn : X.length = n := by have := ho.len; simpa using this
    have Hn := Lib.hid hn
    have hnz : n ≤ 120 := by omega
    have hb12 := below_two hb1 hb2
    have hzw := hb12.size
    have hAz : ∀ a, A = some a → a.block < w2.heap.size := fun a ha => (ho.lt a ha).2
    clear hn
    go_wp2_with fail
    go_loopw [4, 5] (fun u v wr => ∃ k : Nat, v = .int .i64 ((k : Int) - 1) ∧ k ≤ n ∧ (∃ A2 n2 c2, u = .slice A2 n2 c2 ∧ Own wr w2.heap.size 21 1 A2 n2 c2 ((revR X k).map encI32)) ∧ Hid (∀ x ∈ X.drop k, PlainC (gG (x.1 : Nat))) ∧ Own wr w1.heap.size 21 1 A n c (X.map encRu) ∧ Below w2.heap.size w2 wr) (fun _ v _ => (intOf v + 1).toNat)
    case atStart => exact ⟨n, by first | rfl | (go_num), Nat.le_refl _, ⟨none, 0, 0, rfl, by unfold revR; rw [List.drop_eq_nil_of_le (by have := Hn.out; omega)]; exact Own.nil_ _ _ _ _⟩, Lib.hid (by rw [List.drop_eq_nil_of_le (by have := Hn.out; omega)]; intro x hx; cases hx), ho, Below.refl _ _⟩
    case round =>
      obtain ⟨k, rfl, hk, ⟨A2, n2, c2, rfl, ho2⟩, HP, hor, hbr⟩ := hrel
      have hEr := (hE1.below hb2).below hbr
      have hb12r := below_step hb12 hbr hzw
      cases k with
      | zero =>
        have hT : textU (revR X 0) = turnL s (boundsG gG s) := by
          have h0 := text_turned HW.out
          rw [HX.out] at h0
          unfold revR
          rw [List.drop_zero, h0, turn_plain (fun x hx => HP.out x (by rw [List.drop_zero, ← HX.out]; exact hx)), HX.out]
        have hT2 : bytesOf (turnL (bytesOf (turnL s (boundsG gG s))) (boundsG gG (bytesOf (turnL s (boundsG gG s))))) = s := by
          have := turn_twice HW.out (g := gG) (fun x hx => HP.out x (by rw [List.drop_zero, ← HX.out]; exact hx))
          rw [this]
          rfl
        have hTz : (turnL s (boundsG gG s)).length = s.size := turn_len gG s
        have H1 := Lib.hid (gTurn_any s _ hEr (by omega))
        have hl2 : (revR X 0).length = n2 := by have := ho2.len; simpa using this
        have hn2 : n2 ≤ 120 := by rw [← hl2]; unfold revR; simp; omega
        have H2 := Lib.hid (fun W hb => uText_any A2 n2 c2 (revR X 0) W ((ho2.below hb).rd (by decide)) hl2 (by omega))
        rw [hT] at H2
        have hXs : (bytesOf (turnL s (boundsG gG s))).size ≤ 1000000 := by rw [show (bytesOf (turnL s (boundsG gG s))).size = (turnL s (boundsG gG s)).length by rfl, hTz]; omega
        have H3 := Lib.hid (fun W (h : Env W) => gTurn_any (bytesOf (turnL s (boundsG gG s))) W h hXs)
        rw [hT2] at H3
        clear hT hT2 hTz hXs hl2
        generalize bytesOf (turnL s (boundsG gG s)) = x at H1 H2 H3
        go_wp2_with fail
        refine H1.out.mono ?_
        rintro e w4 ⟨rfl, hb4⟩
        go_wp2_with fail
        refine (H2.out _ hb4).mono ?_
        rintro e w5 ⟨rfl, hb5⟩
        have hb45 := below_two hb4 hb5
        go_wp2_with fail
        refine (H3.out _ (hEr.below hb45)).mono ?_
        rintro e w6 ⟨rfl, hb6⟩
        have hb46 := below_two hb45 hb6
        go_wp2_with fail
        refine (HLv.out _ (hEr.below hb46)).mono ?_
        rintro e w7 ⟨rfl, hb7⟩
        go_wp2
        go_ret
        exact ⟨rfl, below_step hb12r (below_two hb46 hb7) hb12r.size⟩
      | succ k =>
        have e1 : ((k + 1 : Nat) : Int) - 1 = (k : Int) := by omega
        rw [e1]
        obtain ⟨⟨R, pp, qq⟩, Hx⟩ : ∃ x, Hid (X[k]? = some x) := ⟨_, Lib.hid (List.getElem?_eq_getElem (by have := Hn.out; omega))⟩
        have rd := hor.rd (by decide)
        obtain ⟨b, off, rfl, hcs⟩ := rd (by intro e; have := congrArg List.length e; rw [List.length_map, Hn.out] at this; simp at this; omega)
        have horZ : b < w2.heap.size := hAz _ rfl
        have cr := hcs k 0 (encRu (R, pp, qq)) (.int .i32 (R : Nat)) (by rw [List.getElem?_map, Hx.out]; rfl) rfl
        simp only [Nat.mul_one, Nat.add_zero] at cr
        clear hcs rd
        obtain ⟨y, Hy⟩ : ∃ y, Hid (gG (R : Nat) = y) := ⟨_, Lib.hid rfl⟩
        have HCr := Lib.hid (HC.out (R : Nat) _ hEr)
        rw [Hy.out] at HCr
        have hl2 : (revR X (k + 1)).length = n2 := by have := ho2.len; simpa using this
        have hn2 : n2 ≤ 120 := by rw [← hl2]; unfold revR; simp; omega
        clear hl2
        go_wp2_with fail
        refine HCr.out.mono ?_
        rintro e w4 ⟨rfl, hb4⟩
        have cr4 := cell_keep cr hb4
        have ho4 := ho2.below hb4
        have hor4 := hor.below hb4
        have hbr4 := below_step hbr hb4 hbr.size
        have hz4 := hbr4.size
        clear cr
        have horB : b < w2.heap.size := horZ
        by_cases hp : PlainC y
        · have HP2 : Hid (∀ x ∈ X.drop k, PlainC (gG (x.1 : Nat))) := Lib.hid (by
            intro x hx
            rw [List.drop_eq_getElem_cons (by have := Hn.out; omega), (List.getElem?_eq_some_iff.1 Hx.out).2] at hx
            rcases List.mem_cons.1 hx with rfl | hx
            · rw [show gG (((R, pp, qq) : Nat × Nat × Nat).1 : Nat) = y from Hy.out]; exact hp
            · exact HP.out x hx)
          have HRev : Hid (revR X k = revR X (k + 1) ++ [((R : Nat) : Int)]) := Lib.hid (revR_step Hx.out)
          clear HP Hy HCr
          rcases hp with rfl | rfl | rfl
          all_goals
            go_wp2_with (at_builtin; go_must (refine wpList_app rfl (.tmp 42) (.tmp 47) _ rfl w2.heap.size 21 i0 _ 1 4 Tryz.underlying53 hi0 hz0 hz1 hz2 rfl (by omega) A2 n2 c2 ((revR X (k + 1)).map encI32) rfl (ho4.alloc _) _ 1 1 [encI32 ((R : Nat) : Int)] rfl rfl (Rd.newAt (by simp) rfl) (fun y hy => by rw [List.mem_singleton] at hy; subst hy; exact ⟨rfl, by simp [Value.oneCell', encI32]⟩) (by unfold maxLen; omega) (by omega) (by simp; omega) ?_); intro A3 c3 w5 ho5 hg5 hA5)
            have hb5 := below_app (hbr4.alloc (by omega) _) hg5 (by simp; omega) (fun a ha => (ho4.lt a ha).1)
            have hor5 : Own w5 w1.heap.size 21 1 (some ⟨b, off, none⟩) n c (X.map encRu) := hor_keep hor4 hg5 (fun a ha b2 hb2 => by have h1 := (ho4.lt a ha).1; injection hb2 with hb2; subst hb2; simp only; omega)
            go_roundw
            case rel => exact ⟨k, rfl, by omega, ⟨A3, n2 + 1, c3, rfl, by rw [HRev.out, List.map_append]; exact ho5⟩, HP2, hor5, hb5⟩
            case measure => simp [intOf] <;> omega
        · have n0 : ((y : Int) != 0) = true := by simp; intro h; exact hp (.inl (by omega))
          have n2' : ((y : Int) != 2) = true := by simp; intro h; exact hp (.inr (.inl (by omega)))
          have n3 : ((y : Int) != 3) = true := by simp; intro h; exact hp (.inr (.inr (by omega)))
          go_wp2_with fail
          refine (HLv.out _ (hEr.below hb4)).mono ?_
          rintro e w5 ⟨rfl, hb5⟩
          go_wp2
          go_ret
          exact ⟨rfl, below_step hb12r (below_two hb4 hb5) hb12r.size⟩
end Go.Proofs.YtlbfbkdcjdeagaaGreatDoor

