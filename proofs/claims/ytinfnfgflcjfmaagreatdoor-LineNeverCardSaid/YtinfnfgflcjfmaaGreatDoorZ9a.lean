/-
  Several texts in one, in their build order: Tk, Tm.
-/
import Derived.Test.YtinfnfgflcjfmaaGreatDoorZTe
import Derived.Test.YtinfnfgflcjfmaaGreatDoorZ8a
import Derived.Test.YtinfnfgflcjfmaaGreatDoorZ0a
/-
  line.Kind and line.Prev, walked; kerflaw14.chances of two lists that are the same.
-/
namespace Go.Proofs.YtinfnfgflcjfmaaGreatDoor
open Go.RowKit

/-- What a place is. -/
def kinP : List (Nat × Bool) → Int → Int
  | [], _ => 0
  | x :: r, k => if ((x.1 : Int) == k) then (if x.2 then 2 else 1) else kinP r k
theorem drop_of {α : Type} {l : List α} {i : Nat} {x : α} (h : l[i]? = some x) : l.drop i = x :: l.drop (i + 1) := by
  obtain ⟨h1, h2⟩ := List.getElem?_eq_some_iff.1 h
  rw [List.drop_eq_getElem_cons h1, h2]
theorem Rd.atC {w : World} {A : Option Addr} {l : List (Nat × Bool)} {k : Nat} {x : Nat × Bool} (h : Rd w 2 A (l.map encC)) (hk : l[k]? = some x) :
    ∃ b off, A = some ⟨b, off, none⟩ ∧ w.cell? ⟨b, off + k * 2, none⟩ = some (.int .i64 (x.1 : Nat)) ∧ w.cell? ⟨b, off + k * 2 + 1, none⟩ = some (.bool x.2) := by
  obtain ⟨b, off, rfl, hc⟩ := h (by intro e; cases l with | nil => simp at hk | cons _ _ => simp at e)
  have h0 := hc k 0 (encC x) (.int .i64 (x.1 : Nat)) (by simp [hk]) rfl
  have h1 := hc k 1 (encC x) (.bool x.2) (by simp [hk]) rfl
  exact ⟨b, off, rfl, by simpa using h0, h1⟩
theorem Rd.many (W : World) (t : TypeId) (s : Nat) (cs : List (List Value)) (arr : Array Value) (harr : arr = cs.flatten.toArray) (h : ∀ x ∈ cs, x.length = s) : Rd (W.alloc (.cells arr t)) s (some ⟨W.heap.size, 0, none⟩) cs := fun _ =>
  ⟨W.heap.size, 0, rfl, fun k j x u hx hu => by
    subst harr
    rw [(Blk.new W t cs.flatten.toArray).cell (0 + k * s + j), List.getElem?_toArray, Nat.zero_add]
    exact flatten_get h hx hu⟩

set_option maxRecDepth 100000 in
set_option maxHeartbeats 4000000 in
theorem tKind_any (s : ByteArray) (k : Int) (w : World) (hE : Env w) (hs : s.size ≤ 1000000) :
    Calls Tryz.prog 21 #[.string s, .int .i64 k] w fun e w' => e = .returned (.int .i64 (kinP (lChances gL s) k)) ∧ Below w.heap.size w w' := by
  have HC := Lib.hid (tChances_any s w hE hs)
  obtain ⟨L, HL⟩ : ∃ L, Hid (lChances gL s = L) := ⟨_, Lib.hid rfl⟩
  have HW : Hid (kinP (lChances gL s) k = kinP L k) := Lib.hid (by rw [HL.out])
  clear hE
  go_enter Tryz.func21, Tryz.ntmps21
  go_wp2_with fail
  refine HC.out.mono ?_
  rw [HL.out]
  rintro e w1 ⟨A, n, c, rfl, ho, hb1⟩
  clear HC
  have hn : L.length = n := by have := ho.len; simpa using this
  have Hn := Lib.hid hn
  have hcap := ho.cap
  unfold maxLen at hcap
  have rd := ho.rd (by decide)
  have hsz1 := hb1.size
  clear hn
  go_wp2_with fail
  go_loopw [10] (fun v wr => ∃ j : Nat, v = .int .i64 j ∧ j ≤ n ∧ Hid (kinP (L.drop j) k = kinP L k) ∧ Below w1.heap.size w1 wr) (fun v _ => n - (intOf v).toNat)
  case atStart => exact ⟨0, rfl, by omega, Lib.hid rfl, Below.refl _ _⟩
  case round =>
    obtain ⟨j, rfl, hj, HK, hb⟩ := hrel
    have hbb := below_step hb1 hb hsz1
    by_cases hlt : j < n
    · obtain ⟨⟨a, m⟩, Hx⟩ : ∃ x, Hid (L[j]? = some x) := ⟨_, Lib.hid (List.getElem?_eq_getElem (by have := Hn.out; omega))⟩
      obtain ⟨b, off, rfl, c0, c1⟩ := rd.atC Hx.out
      simp only at c0 c1
      have c0 := cell_keep c0 hb
      have c1 := cell_keep c1 hb
      have HD := Lib.hid (drop_of Hx.out)
      obtain ⟨q, hq⟩ : ∃ q, ((a : Int) == k) = q := ⟨_, rfl⟩
      have HS : Hid (kinP L k = if q then (if m then 2 else 1) else kinP (L.drop (j + 1)) k) := Lib.hid (by rw [← HK.out, HD.out, kinP, hq])
      have hb2 : Below w1.heap.size w1 (wr.alloc (.cells #[.int .i64 (a : Nat), .bool m] 38)) := hb.alloc hb.size _
      have hB := Blk.new wr 38 #[.int .i64 (a : Nat), .bool m]
      have d0 := hB.cell 0
      have d1 := hB.cell 1
      simp only [List.getElem?_toArray, List.getElem?_cons_zero, List.getElem?_cons_succ] at d0 d1
      cases q with
      | true =>
        cases m with
        | true =>
          go_wp2
          go_ret
          exact ⟨by rw [HW.out, HS.out]; rfl, below_step hb1 hb2 hsz1⟩
        | false =>
          go_wp2
          go_ret
          exact ⟨by rw [HW.out, HS.out]; rfl, below_step hb1 hb2 hsz1⟩
      | false =>
        have HK' : Hid (kinP (L.drop (j + 1)) k = kinP L k) := Lib.hid (by rw [HS.out]; rfl)
        go_wp2
        go_roundw
        case rel => exact ⟨j + 1, by go_num, by omega, HK', hb2⟩
        case measure => simp [intOf]; omega
    · have HV : Hid (kinP L k = 0) := Lib.hid (by rw [← HK.out, List.drop_eq_nil_of_le (by have := Hn.out; omega)]; rfl)
      go_wp2
      go_ret
      exact ⟨by rw [HW.out, HV.out]; rfl, hbb⟩

/-- The last below a number; whether there is one. -/
def prevGo (k : Int) (l : List (Nat × Bool)) (b : (Nat × Bool) × Bool) : (Nat × Bool) × Bool := l.foldl (fun b x => if (x.1 : Int) < k then (x, true) else b) b
theorem res_prev (w : World) (b : Nat) (tmps : Array Value) (ht : tmps.getD 4 undef = .pointer (some ⟨b, 0, none⟩)) {a : Int} {m : Bool} {v : Value} (h5 : tmps.getD 5 undef = v) (h : Blk w b 38 #[.int .i64 a, .bool m]) :
    (results Tryz.f49 tmps).run Tryz.prog w = .ok (.tuple #[.agg #[.int .i64 a, .bool m], v]) w := by
  have ht' : tmps[4]?.getD undef = .pointer (some ⟨b, 0, none⟩) := by simpa [Array.getD_eq_getD_getElem?] using ht
  have h5' : tmps[5]?.getD undef = v := by simpa [Array.getD_eq_getD_getElem?] using h5
  have h0 := h.cell 0
  have h1 := h.cell 1
  simp only [List.getElem?_toArray, List.getElem?_cons_zero, List.getElem?_cons_succ] at h0 h1
  simp [results, Tryz.results49, go_sem, ht', h5', h0, h1]

set_option maxRecDepth 100000 in
set_option maxHeartbeats 4000000 in
theorem tPrev_any (s : ByteArray) (k : Int) (w : World) (hE : Env w) (hs : s.size ≤ 1000000) :
    Calls Tryz.prog 49 #[.string s, .int .i64 k] w fun e w' => e = .returned (.tuple #[.agg #[.int .i64 (prevGo k (lChances gL s) ((0, false), false)).1.1, .bool (prevGo k (lChances gL s) ((0, false), false)).1.2], .bool (prevGo k (lChances gL s) ((0, false), false)).2]) ∧ Below w.heap.size w w' := by
  have hB0 : Below w.heap.size w (w.alloc (.cells #[.int .i64 0, .bool false] 38)) := (Below.refl _ _).alloc (Nat.le_refl _) _
  have hR0 := Blk.new w 38 #[.int .i64 0, .bool false]
  have HC := Lib.hid (tChances_any s _ (hE.below hB0) hs)
  obtain ⟨L, HL⟩ : ∃ L, Hid (lChances gL s = L) := ⟨_, Lib.hid rfl⟩
  rw [HL.out]
  obtain ⟨R, HR⟩ : ∃ R, Hid (prevGo k L ((0, false), false) = R) := ⟨_, Lib.hid rfl⟩
  rw [HR.out]
  clear hE
  go_enter Tryz.func49, Tryz.ntmps49
  go_wp2_with fail
  refine HC.out.mono ?_
  rw [HL.out]
  rintro e w1 ⟨A, n, c, rfl, ho, hb1⟩
  clear HC
  have hn : L.length = n := by have := ho.len; simpa using this
  have Hn := Lib.hid hn
  have hcap := ho.cap
  unfold maxLen at hcap
  have hR1 := hR0.below hb1
  have hB1 := hB0.trans (hb1.mono hB0.size)
  have ho := ho.more (b' := w.heap.size + 1) (by simp)
  have hsz1 := hB1.size
  clear hn hR0 hB0 hb1
  go_wp2_with fail
  go_loopw [5, 11] (fun v u wr => ∃ (j : Nat) (a : Nat) (m b : Bool), v = .bool b ∧ u = .int .i64 j ∧ j ≤ n ∧ Hid (prevGo k (L.drop j) ((a, m), b) = R) ∧ Blk wr w.heap.size 38 #[.int .i64 (a : Nat), .bool m] ∧ Own wr (w.heap.size + 1) 38 2 A n c (L.map encC) ∧ Below w.heap.size w wr) (fun _ u _ => n - (intOf u).toNat)
  case atStart => exact ⟨0, 0, false, false, rfl, rfl, by omega, HR, hR1, ho, hB1⟩
  case round =>
    clear hR1 ho hB1
    obtain ⟨j, a0, m0, b0, rfl, rfl, hj, HK, hR, ho, hb⟩ := hrel
    have hszr := hb.size
    by_cases hlt : j < n
    · obtain ⟨⟨a, m⟩, Hx⟩ : ∃ x, Hid (L[j]? = some x) := ⟨_, Lib.hid (List.getElem?_eq_getElem (by have := Hn.out; omega))⟩
      obtain ⟨b, off, rfl, c0, c1⟩ := (ho.rd (by decide)).atC Hx.out
      simp only at c0 c1
      have HD := Lib.hid (drop_of Hx.out)
      have HS : Hid (prevGo k (L.drop (j + 1)) (if (a : Int) < k then ((a, m), true) else ((a0, m0), b0)) = R) := Lib.hid (by rw [← HK.out, HD.out]; rfl)
      have hb2 : Below w.heap.size w (wr.alloc (.cells #[.int .i64 (a : Nat), .bool m] 38)) := hb.alloc hb.size _
      have hB := Blk.new wr 38 #[.int .i64 (a : Nat), .bool m]
      have hR2 := hR.alloc (.cells #[.int .i64 (a : Nat), .bool m] 38)
      have ho2 := ho.alloc (.cells #[.int .i64 (a : Nat), .bool m] 38)
      have d0 := hB.cell 0
      have d1 := hB.cell 1
      have r0 := hR2.cell 0
      have r1 := hR2.cell 1
      have f0 := hR2.frozen 0
      have f1 := hR2.frozen 1
      simp only [List.getElem?_toArray, List.getElem?_cons_zero, List.getElem?_cons_succ] at d0 d1 r0 r1
      by_cases hq : (a : Int) < k
      · have HK' : Hid (prevGo k (L.drop (j + 1)) ((a, m), true) = R) := Lib.hid (by rw [← HS.out, if_pos hq])
        have hl1 : ∀ z, (some ⟨b, off, none⟩ : Option Addr) = some z → z.block ≠ w.heap.size := fun z hz => by have := (ho.lt z hz).1; omega
        have hbf := (hb2.setCell (p := ⟨w.heap.size, 0, none⟩) (Nat.le_refl _) (.int .i64 (a : Nat))).setCell (p := ⟨w.heap.size, 1, none⟩) (Nat.le_refl _) (.bool m)
        have hof := (ho2.setCell (p := ⟨w.heap.size, 0, none⟩) hl1 (.int .i64 (a : Nat))).setCell (p := ⟨w.heap.size, 1, none⟩) hl1 (.bool m)
        have hRf := (hR2.set_ 0 (.int .i64 (a : Nat))).set_ 1 (.bool m)
        go_wp2
        go_roundw
        case rel => exact ⟨j + 1, a, m, true, rfl, by go_num, by omega, HK', by simpa using hRf, hof, hbf⟩
        case measure => simp [intOf]; omega
      · have HK' : Hid (prevGo k (L.drop (j + 1)) ((a0, m0), b0) = R) := Lib.hid (by rw [← HS.out, if_neg hq])
        go_wp2
        go_roundw
        case rel => exact ⟨j + 1, a0, m0, b0, rfl, by go_num, by omega, HK', hR2, ho2, hb2⟩
        case measure => simp [intOf]; omega
    · have HV : Hid (R = ((a0, m0), b0)) := Lib.hid (by rw [← HK.out, List.drop_eq_nil_of_le (by have := Hn.out; omega)]; rfl)
      have r0 := hR.cell 0
      have r1 := hR.cell 1
      have f0 := hR.frozen 0
      have f1 := hR.frozen 1
      simp only [List.getElem?_toArray, List.getElem?_cons_zero, List.getElem?_cons_succ] at r0 r1
      have hRf := (hR.set_ 0 (.int .i64 (a0 : Nat))).set_ 1 (.bool m0)
      have hbf := (hb.setCell (p := ⟨w.heap.size, 0, none⟩) (Nat.le_refl _) (.int .i64 (a0 : Nat))).setCell (p := ⟨w.heap.size, 1, none⟩) (Nat.le_refl _) (.bool m0)
      go_wp2
      refine bodyPost_ret (res_prev _ w.heap.size _ rfl rfl (by simpa using hRf)) rfl ?_
      exact ⟨by rw [HV.out]; rfl, hbf⟩
end Go.Proofs.YtinfnfgflcjfmaaGreatDoor

/-
  kerflaw14: chances of two lists that are the same; live, walked.
-/
namespace Go.Proofs.YtinfnfgflcjfmaaGreatDoor
open Go.RowKit

theorem guardC (op : BinOp) (x y : Operand) (xs ys : Array Value) (w : World) : (eqGuard op 38 x y (.agg xs) (.agg ys)).run Tryz.prog w = .ok () w :=
  run_eqGuard_agg w op _ x y xs ys (by kernel_rfl)
theorem eqlC (a : Int) (m : Bool) (w : World) : (binOp .eql 38 (.agg #[.int .i64 a, .bool m]) (.agg #[.int .i64 a, .bool m])).run Tryz.prog w = .ok (.bool true) w := by
  have hS : Tryz.prog.underlying 38 = some (.struct (Tryz.prog.fieldsOf 38)) := by kernel_rfl
  have hp : Tryz.prog.stoodInHeld 38 = false := by kernel_rfl
  have u3 := Tryz.underlying3
  have a3 := Tryz.isAgg3
  have z3 := Tryz.sizeOf3
  have u4 := Tryz.underlying4
  have a4 := Tryz.isAgg4
  have z4 := Tryz.sizeOf4
  rw [run_eql_struct, show (10000 : Nat) = 9999 + 1 from rfl, run_equalIn_agg w 9999 _ _ _ hS hp]
  simp only [Program.fieldsOf, Tryz.underlying38]
  go_simp
theorem neqC (a : Int) (m : Bool) (w : World) : (binOp .neq 38 (.agg #[.int .i64 a, .bool m]) (.agg #[.int .i64 a, .bool m])).run Tryz.prog w = .ok (.bool false) w := by
  have h := eqlC a m w
  rw [run_eql_struct] at h
  rw [run_neq_struct]
  cases hq : (Op.equalIn 10000 38 (.agg #[.int .i64 a, .bool m]) (.agg #[.int .i64 a, .bool m])).run Tryz.prog w with
  | ok b' w' => rw [hq] at h; simp at h; simp [h]
  | _ => rw [hq] at h; simp at h
set_option maxRecDepth 100000 in
set_option maxHeartbeats 2000000 in
theorem ychances_any (A B : Option Addr) (n c e : Nat) (l : List (Nat × Bool)) (w : World) (hA : Rd w 2 A (l.map encC)) (hB : Rd w 2 B (l.map encC)) (hl : l.length = n) (hn : n ≤ 4000000) :
    Calls Tryz.prog 24 #[.slice A n c, .slice B n e] w fun e w' => e = .returned (.bool true) ∧ Below w.heap.size w w' := by
  have Hl := Lib.hid hl
  have hg := guardC
  clear hl
  go_enter Tryz.func24, Tryz.ntmps24
  go_wp2
  go_loopw [5] (fun v wr => ∃ i k : Nat, v = .int .i64 i ∧ i ≤ n ∧ wr = w.drewN k) (fun v _ => n - (intOf v).toNat)
  case atStart => exact ⟨0, 0, rfl, by omega, rfl⟩
  case round =>
    obtain ⟨i, k, rfl, hi, rfl⟩ := hrel
    by_cases hlt : i < n
    · obtain ⟨⟨a, m⟩, Hx⟩ : ∃ x, Hid (l[i]? = some x) := ⟨_, Lib.hid (List.getElem?_eq_getElem (show i < l.length by have := Hl.out; omega))⟩
      obtain ⟨b, off, rfl, h1, h2⟩ := hA.atC Hx.out
      obtain ⟨b', off', rfl, k1, k2⟩ := hB.atC Hx.out
      simp only at h1 h2 k1 k2
      have hq := fun W => neqC (a : Nat) m W
      go_wp2_with fail
      go_quiet (fail)
      go_wp2
      go_roundw
      case rel => exact ⟨i + 1, _, by go_num, by omega, by first | rfl | exact World.drewN_drewN _ _ _⟩
      case measure => simp [intOf]; omega
    · go_wp2
      go_ret
      exact ⟨rfl, below_refl_drewN w k⟩

theorem live_chances : lChances gL ⟨#[97, 32, 98, 10, 99]⟩ = [(2, false), (4, true), (5, true)] := by kernel_rfl
theorem live_prev : prevGo 3 (lChances gL ⟨#[97, 32, 98]⟩) ((0, false), false) = ((2, false), true) := by kernel_rfl
theorem live_kind : kinP (lChances gL ⟨#[97, 32, 98]⟩) 2 = 1 := by kernel_rfl
theorem live_trail : trailP gL ⟨#[97, 98, 32, 10]⟩ = 2 := by kernel_rfl
set_option maxRecDepth 100000 in
set_option maxHeartbeats 4000000 in
theorem ylive_any (w : World) (hE : Env w) : Calls Tryz.prog 15 #[] w fun e w' => e = .returned (.bool true) ∧ Below w.heap.size w w' := by
  have H1 := Lib.hid (tChances_any ⟨#[97, 32, 98, 10, 99]⟩ w hE (by decide))
  have H2 := Lib.hid (fun W (h : Env W) => tPrev_any ⟨#[97, 32, 98]⟩ 3 W h (by decide))
  have H3 := Lib.hid (fun W (h : Env W) => tKind_any ⟨#[97, 32, 98]⟩ 2 W h (by decide))
  have H4 := Lib.hid (fun W (h : Env W) => tTrail_any ⟨#[97, 98, 32, 10]⟩ W h (by decide))
  rw [live_chances] at H1
  simp only [live_prev] at H2
  simp only [live_kind] at H3
  simp only [live_trail] at H4
  go_enter Tryz.func15, Tryz.ntmps15
  go_wp2_with fail
  refine H1.out.mono ?_
  rintro e w1 ⟨A, n, c, rfl, ho, hb1⟩
  obtain rfl : 3 = n := ho.len
  go_wp2_with fail
  refine (H2.out _ (hE.below hb1)).mono ?_
  rintro e w2 ⟨rfl, hb2⟩
  have hbb := below_two hb1 hb2
  have ho := ho.below hb2
  have hB := Blk.new w2 38 #[.int .i64 2, .bool false]
  have hb3 : Below w.heap.size w (w2.alloc (.cells #[.int .i64 2, .bool false] 38)) := hbb.alloc hbb.size _
  have ho := ho.alloc (.cells #[.int .i64 2, .bool false] 38)
  have d0 := hB.cell 0
  simp only [List.getElem?_toArray, List.getElem?_cons_zero] at d0
  have hb4 : Below w.heap.size w ((w2.alloc (.cells #[.int .i64 2, .bool false] 38)).alloc (.cells #[.int .i64 2, .bool false, .int .i64 4, .bool true, .int .i64 5, .bool true] 38)) := hb3.alloc hb3.size _
  have ho := ho.alloc (.cells #[.int .i64 2, .bool false, .int .i64 4, .bool true, .int .i64 5, .bool true] 38)
  have hr := Rd.many (w2.alloc (.cells #[.int .i64 2, .bool false] 38)) 38 2 ([((2 : Nat), false), (4, true), (5, true)].map encC) #[.int .i64 2, .bool false, .int .i64 4, .bool true, .int .i64 5, .bool true] rfl (by intro x hx; obtain ⟨y, _, rfl⟩ := List.mem_map.1 hx; rfl)
  rw [show (w2.alloc (.cells #[.int .i64 2, .bool false] 38)).heap.size = w2.heap.size + 1 by simp] at hr
  have HY := Lib.hid (ychances_any A (some ⟨w2.heap.size + 1, 0, none⟩) 3 c 3 [((2 : Nat), false), (4, true), (5, true)] _ (ho.rd (by decide)) hr rfl (by omega))
  have d0 := cell_keep d0 ((Below.refl _ _).alloc (Nat.le_refl _) (.cells #[.int .i64 2, .bool false, .int .i64 4, .bool true, .int .i64 5, .bool true] 38))
  clear H1 H2 hr ho hB hb3 hbb
  go_wp2_with fail
  refine HY.out.mono ?_
  rintro e w3 ⟨rfl, hb5⟩
  have d0 := cell_keep d0 hb5
  have hb6 := below_step hb4 hb5 hb4.size
  go_wp2_with fail
  refine (H3.out _ (hE.below hb6)).mono ?_
  rintro e w4 ⟨rfl, hb7⟩
  have d0 := cell_keep d0 hb7
  have hb8 := below_step hb6 hb7 hb6.size
  go_wp2_with fail
  refine (H4.out _ (hE.below hb8)).mono ?_
  rintro e w5 ⟨rfl, hb9⟩
  have d0 := cell_keep d0 hb9
  have hb10 := below_step hb8 hb9 hb8.size
  go_wp2
  go_ret
  exact ⟨rfl, hb10⟩
end Go.Proofs.YtinfnfgflcjfmaaGreatDoor

