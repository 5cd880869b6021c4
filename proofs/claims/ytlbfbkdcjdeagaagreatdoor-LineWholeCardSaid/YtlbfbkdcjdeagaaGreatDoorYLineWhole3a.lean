/-
  Several texts in one, in their build order: Te, Tk, Tz, Tm.
-/
import Derived.Test.YtlbfbkdcjdeagaaGreatDoorYLineWholeTc
import Derived.Test.YtlbfbkdcjdeagaaGreatDoorYLineWholeTd
import Derived.Test.YtlbfbkdcjdeagaaGreatDoorYLineWhole1a
import Derived.Test.YtlbfbkdcjdeagaaGreatDoorYLineWhole0b
import Derived.Test.YtlbfbkdcjdeagaaGreatDoorZ0a
/-
  line.Chances, walked.
-/
namespace Go.Proofs.YtlbfbkdcjdeagaaGreatDoor
open Go.RowKit

def encC (x : Nat × Bool) : List Value := [.int .i64 (x.1 : Nat), .bool x.2]
theorem encC_ok (l : List (Nat × Bool)) : ∀ y ∈ l.map encC, y.length = 2 ∧ ∀ u ∈ y, u.oneCell' = true := by
  intro y hy; obtain ⟨r, _, rfl⟩ := List.mem_map.1 hy
  exact ⟨rfl, by simp [encC, Value.oneCell']⟩
theorem infoC : (Tryz.prog.info? 47).map (fun i => (i.zero, i.size, i.bytes)) = some (some (.agg #[.int .i64 0, .bool false]), 2, 16) := by kernel_rfl
theorem lpick_next {c : List Int} {P : List Nat} {i a : Nat} (h : P[i]? = some a) : lPick c 0 (P.take (i + 1)) = lPick c 0 (P.take i) ++ (if i ≠ 0 ∧ lCut c i = true then [(a, lMust (c.getD (i - 1) 0))] else []) := by
  obtain ⟨h1, h2⟩ := List.getElem?_eq_some_iff.1 h
  rw [List.take_add_one, h, Option.toList_some, lPick_append, Nat.zero_add, List.length_take, Nat.min_eq_left (by omega), lPick, lPick, List.append_nil]
theorem lpick_one (c : List Int) (P : List Nat) : lPick c 0 (P.take 1) = [] := by
  cases P with
  | nil => rfl
  | cons a r => simp [lPick]

set_option maxRecDepth 100000 in
set_option maxHeartbeats 8000000 in
theorem tChances_any (s : ByteArray) (w : World) (hE : Env w) (hs : s.size ≤ 1000000) :
    Calls Tryz.prog 36 #[.string s] w fun e w' => ∃ A n c, e = .returned (.slice A n c) ∧ Own w' w.heap.size 47 2 A n c ((lChances gL s).map encC) ∧ Below w.heap.size w w' := by
  obtain ⟨i0, hi0, hz0, hz1, hz2⟩ := info_parts infoC
  have HC := Lib.hid (tscan_any s w hE hs)
  obtain ⟨P, HP⟩ : ∃ P, Hid ((runesP s).map (·.2.1) = P) := ⟨_, Lib.hid rfl⟩
  obtain ⟨C, HCl⟩ : ∃ C, Hid (lCls gL s = C) := ⟨_, Lib.hid rfl⟩
  have HW : Hid (lChances gL s = lPick C 0 P ++ (if s.size = 0 then [] else [(s.size, true)])) := Lib.hid (by rw [← HP.out, ← HCl.out]; rfl)
  have hPl : P.length = C.length := by rw [← HP.out, ← HCl.out, List.length_map, lCls_len]
  have hPz : P.length ≤ s.size := by rw [← HP.out, List.length_map]; exact runesP_len s
  clear hE
  go_enter Tryz.func36, Tryz.ntmps36
  go_wp2_with fail
  refine HC.out.mono ?_
  rintro e w1 ⟨A1, n1, c1, A2, n2, c2, rfl, o1, o2, hb1⟩
  clear HC
  rw [HP.out] at o1
  rw [HCl.out] at o2
  have hn1 : P.length = n1 := by have := o1.len; simpa using this
  have hn2 : C.length = n2 := by have := o2.len; simpa using this
  obtain rfl : n2 = n1 := by omega
  have Hn2 := Lib.hid hn2
  have Hn1 := Lib.hid hn1
  have hnz : n2 ≤ s.size := by omega
  clear hn1 hn2 hPl hPz
  have hK := Blk.new w1 87 #[.slice A1 n2 c1, .slice A2 n2 c2]
  have hb2 : Below w1.heap.size w1 (w1.alloc (.cells #[.slice A1 n2 c1, .slice A2 n2 c2] 87)) := (Below.refl _ _).alloc (Nat.le_refl _) _
  have o1 := o1.below hb2
  have o2 := o2.below hb2
  have hb3 := below_step hb1 hb2 hb1.size
  have k0 := hK.cell 0
  have k1 := hK.cell 1
  simp only [List.getElem?_toArray, List.getElem?_cons_zero, List.getElem?_cons_succ] at k0 k1
  go_wp2_with fail
  generalize (w1.alloc (.cells #[.slice A1 n2 c1, .slice A2 n2 c2] 87)) = w3 at hK o1 o2 hb3 k0 k1 ⊢
  generalize w1.heap.size = bx at hK k0 k1 ⊢
  have rd1 := o1.rd (by decide)
  have rd2 := o2.rd (by decide)
  have hsz3 := hb3.size
  clear o1 o2 hb1 hb2
  go_loopw [4, 5] (fun v u wr => ∃ (i : Nat) (A : Option Addr) (n c : Nat) (O : List (Nat × Bool)), v = .slice A n c ∧ u = .int .i64 i ∧ 1 ≤ i ∧ i ≤ n2 + 1 ∧ Own wr w3.heap.size 47 2 A n c (O.map encC) ∧ n ≤ i ∧ Hid (O = lPick C 0 (P.take i)) ∧ Below w3.heap.size w3 wr) (fun _ u _ => n2 - (intOf u).toNat)
  case atStart => exact ⟨1, none, 0, 0, [], rfl, rfl, by omega, by omega, Own.nil_ _ _ _ _, by omega, Lib.hid (lpick_one C P).symm, Below.refl _ _⟩
  case round =>
    obtain ⟨i, A, n, c, O, rfl, rfl, h1i, hi, ho, hni, HO, hb⟩ := hrel
    have hszr := hb.size
    by_cases hlt : i < n2
    · obtain ⟨a, Ha⟩ : ∃ a, Hid (P[i]? = some a) := ⟨_, Lib.hid (List.getElem?_eq_getElem (by have := Hn1.out; omega))⟩
      obtain ⟨p, Hp⟩ : ∃ a, Hid (C[i - 1]? = some a) := ⟨_, Lib.hid (List.getElem?_eq_getElem (by have := Hn2.out; omega))⟩
      obtain ⟨b1, off1, rfl, hc1⟩ := rd1.atP Ha.out
      obtain ⟨b2, off2, rfl, hc2⟩ := rd2.atZ Hp.out
      have j0 := cell_keep k0 hb
      have j1 := cell_keep k1 hb
      have HN := Lib.hid (lpick_next (c := C) Ha.out)
      rw [← HO.out, getD_of Hp.out] at HN
      obtain ⟨j, hj⟩ : ∃ j, i - 1 = j := ⟨_, rfl⟩
      have e1 : (i : Int) - 1 = (j : Int) := by omega
      rw [hj] at hc2
      clear hj
      have HCu := Lib.hid (tcut_any (some ⟨b1, off1, none⟩) (some ⟨b2, off2, none⟩) n2 c1 n2 c2 C i wr (rd2.below hb) Hn2.out (by omega) (by omega) (by omega))
      cases hcu : lCut C i with
      | true =>
        have HN' : Hid (O ++ [(a, lMust p)] = lPick C 0 (P.take (i + 1))) := Lib.hid (by rw [HN.out, if_pos ⟨by omega, hcu⟩])
        obtain ⟨m, Hm⟩ : ∃ m, Hid (lMust p = m) := ⟨_, Lib.hid rfl⟩
        rw [Hm.out] at HN'
        rw [hcu] at HCu
        clear hcu HN
        go_upto_region 7 with (go_at_call 72; refine HCu.out.mono ?_; rintro e w5 ⟨rfl, hb5⟩; have hbb := below_step hb hb5 hb.size; have ho5 := ho.below hb5)
        have hs5 := hbb.size
        have q1 : IntKind.i64.wrap ((i : Int) - 1) = (i : Int) - 1 := IntWalk.i64_in _ (by omega)
        have q2 : IntKind.i64.wrap (j : Int) = (j : Int) := IntWalk.i64_in _ (by omega)
        have q3 : (j : Int) < (n2 : Int) := by omega
        have q4 : (i : Int) < (n2 : Int) := by omega
        have q5 : (0 : Int) ≤ (j : Int) := by omega
        have q6 : j < n2 := by omega
        have HST := Lib.hid (fun (V : World) (h : Below w3.heap.size w3 V) => And.intro (cell_keep k0 h) (And.intro (cell_keep k1 h) (And.intro (cell_keep hc1 h) (And.intro (cell_keep hc2 h) h))))
        clear HCu ho hb hszr j0 j1
        go_wp2_with fail
        go_region_held3 (fun V => V.cell? ⟨bx, 0, none⟩ = some (.slice (some ⟨b1, off1, none⟩) n2 c1) ∧ V.cell? ⟨bx, 1, none⟩ = some (.slice (some ⟨b2, off2, none⟩) n2 c2) ∧ V.cell? ⟨b1, off1 + i, none⟩ = some (.int .i64 (a : Nat)) ∧ V.cell? ⟨b2, off2 + j, none⟩ = some (.int .i64 p) ∧ Below w3.heap.size w3 V)
          (first | exact HST.out _ hb4 | exact HST.out _ (hbz.alloc hbz.size _) | exact HST.out _ hbz | exact HST.out _ hbb | exact HST.out _ (below_drewN hbb 1))
          (first
            | (go_at_call 73; go_split_ands; refine (tmust_any _ _).mono ?_; rw [Hm.out]; rintro e wz ⟨rfl, hz⟩; have hbz := below_step (below_drewN hbb 1) hz hbb.size; have ho6 := Own.below (w := w5.drew) ho5 hz; have hsz := hbz.size)
            | (refine step_app rfl (.tmp 18) (.tmp 32) _ rfl w3.heap.size 47 i0 _ 2 16 Tryz.underlying44 hi0 hz0 hz1 hz2 rfl (by omega) A n c (O.map encC) rfl (ho6.alloc _) _ 1 1 [encC (a, m)] rfl rfl (Rd.newAt (by simp) rfl) (encC_ok [(a, m)]) (by unfold maxLen; omega) (by omega) (by simp; omega) ?_; intro A3 c3 w4 ho4 hg4 hA4; have hb4 := below_app (hbz.alloc (by omega) _) hg4 (by simp; omega) (fun a ha => by have := (ho6.lt a ha).1; omega)))
        go_wp2
        go_roundw
        case rel => exact ⟨i + 1, A3, n + 1, c3, O ++ [(a, m)], rfl, by go_num, by omega, by omega, by rw [List.map_append]; exact ho4, by omega, HN', hb4⟩
        case measure => simp [intOf]; omega
      | false =>
        have HN' : Hid (O = lPick C 0 (P.take (i + 1))) := Lib.hid (by rw [HN.out, if_neg (by rw [hcu]; simp), List.append_nil])
        rw [hcu] at HCu
        clear hcu HN
        go_wp2_with (go_at_call 72; refine HCu.out.mono ?_; rintro e w5 ⟨rfl, hb5⟩; have hbb := below_step hb hb5 hb.size; have ho5 := ho.below hb5)
        go_roundw
        case rel => exact ⟨i + 1, A, n, c, O, rfl, by go_num, by omega, by omega, ho5, by omega, HN', hbb⟩
        case measure => simp [intOf]; omega
    · have hO : Hid (O = lPick C 0 P) := Lib.hid (by rw [HO.out, List.take_of_length_le (by have := Hn1.out; omega)])
      have j0 := cell_keep k0 hb
      by_cases hz : 0 < s.size
      · have HV : Hid (O ++ [(s.size, true)] = lChances gL s) := Lib.hid (by rw [HW.out, hO.out, if_neg (by omega)])
        go_wp2_with (at_builtin; go_must (refine wpList_app rfl (.tmp 37) (.tmp 41) _ rfl w3.heap.size 47 i0 _ 2 16 Tryz.underlying44 hi0 hz0 hz1 hz2 rfl (by omega) A n c (O.map encC) rfl (ho.alloc _) _ 1 1 [encC (s.size, true)] rfl rfl (Rd.newAt (by simp) rfl) (encC_ok [(s.size, true)]) (by unfold maxLen; omega) (by omega) (by simp; omega) ?_); intro A3 c3 w4 ho4 hg4 hA4; have hb4 := below_app (hb.alloc (by omega) _) hg4 (by simp; omega) (fun a ha => by have := (ho.lt a ha).1; omega); clear hg4 hA4)
        go_ret
        exact ⟨A3, n + 1, c3, rfl, by rw [← HV.out, List.map_append]; exact ho4.more hsz3, below_step hb3 hb4 hsz3⟩
      · have HV : Hid (O = lChances gL s) := Lib.hid (by rw [HW.out, hO.out, if_pos (by omega), List.append_nil])
        go_wp2
        go_ret
        exact ⟨A, n, c, rfl, by rw [← HV.out]; exact ho.more hsz3, below_step hb3 hb hsz3⟩
end Go.Proofs.YtlbfbkdcjdeagaaGreatDoor

/-
  line.Kind and line.Prev, walked; kerflaw14.chances of two lists that are the same.
-/
namespace Go.Proofs.YtlbfbkdcjdeagaaGreatDoor
open Go.RowKit

/-- What a place is. -/
def kinP : List (Nat × Bool) → Int → Int
  | [], _ => 0
  | x :: r, k => if ((x.1 : Int) == k) then (if x.2 then 2 else 1) else kinP r k
theorem drop_of {α : Type} {l : List α} {i : Nat} {x : α} (h : l[i]? = some x) : l.drop i = x :: l.drop (i + 1) := by
  obtain ⟨h1, h2⟩ := List.getElem?_eq_some_iff.1 h
  rw [List.drop_eq_getElem_cons h1, h2]
theorem Rd.atC {w : World} {A : Option Addr} {l : List (Nat × Bool)} {k : Nat} {x : Nat × Bool} (h : Rd w 2 A (l.map encC)) (hk : l[k]? = some x) :
    ∃ b off, A = some ⟨b, off, none⟩ ∧ w.cell? ⟨b, off + k * 2, none⟩ = some (.int .i64 (x.1 : Nat)) ∧ w.cell? ⟨b, off + k * 2 + 1, none⟩ = some (.bool x.2) := by
  obtain ⟨b, off, rfl, hc⟩ := h (by intro e; cases l with | nil => simp at hk | cons _ _ => simp at e)
  have h0 := hc k 0 (encC x) (.int .i64 (x.1 : Nat)) (by simp [hk]) rfl
  have h1 := hc k 1 (encC x) (.bool x.2) (by simp [hk]) rfl
  exact ⟨b, off, rfl, by simpa using h0, h1⟩
theorem Rd.many (W : World) (t : TypeId) (s : Nat) (cs : List (List Value)) (arr : Array Value) (harr : arr = cs.flatten.toArray) (h : ∀ x ∈ cs, x.length = s) : Rd (W.alloc (.cells arr t)) s (some ⟨W.heap.size, 0, none⟩) cs := fun _ =>
  ⟨W.heap.size, 0, rfl, fun k j x u hx hu => by
    subst harr
    rw [(Blk.new W t cs.flatten.toArray).cell (0 + k * s + j), List.getElem?_toArray, Nat.zero_add]
    exact flatten_get h hx hu⟩

set_option maxRecDepth 100000 in
set_option maxHeartbeats 4000000 in
theorem tKind_any (s : ByteArray) (k : Int) (w : World) (hE : Env w) (hs : s.size ≤ 1000000) :
    Calls Tryz.prog 34 #[.string s, .int .i64 k] w fun e w' => e = .returned (.int .i64 (kinP (lChances gL s) k)) ∧ Below w.heap.size w w' := by
  have HC := Lib.hid (tChances_any s w hE hs)
  obtain ⟨L, HL⟩ : ∃ L, Hid (lChances gL s = L) := ⟨_, Lib.hid rfl⟩
  have HW : Hid (kinP (lChances gL s) k = kinP L k) := Lib.hid (by rw [HL.out])
  clear hE
  go_enter Tryz.func34, Tryz.ntmps34
  go_wp2_with fail
  refine HC.out.mono ?_
  rw [HL.out]
  rintro e w1 ⟨A, n, c, rfl, ho, hb1⟩
  clear HC
  have hn : L.length = n := by have := ho.len; simpa using this
  have Hn := Lib.hid hn
  have hcap := ho.cap
  unfold maxLen at hcap
  have rd := ho.rd (by decide)
  have hsz1 := hb1.size
  clear hn
  go_wp2_with fail
  go_loopw [10] (fun v wr => ∃ j : Nat, v = .int .i64 j ∧ j ≤ n ∧ Hid (kinP (L.drop j) k = kinP L k) ∧ Below w1.heap.size w1 wr) (fun v _ => n - (intOf v).toNat)
  case atStart => exact ⟨0, rfl, by omega, Lib.hid rfl, Below.refl _ _⟩
  case round =>
    obtain ⟨j, rfl, hj, HK, hb⟩ := hrel
    have hbb := below_step hb1 hb hsz1
    by_cases hlt : j < n
    · obtain ⟨⟨a, m⟩, Hx⟩ : ∃ x, Hid (L[j]? = some x) := ⟨_, Lib.hid (List.getElem?_eq_getElem (by have := Hn.out; omega))⟩
      obtain ⟨b, off, rfl, c0, c1⟩ := rd.atC Hx.out
      simp only at c0 c1
      have c0 := cell_keep c0 hb
      have c1 := cell_keep c1 hb
      have HD := Lib.hid (drop_of Hx.out)
      obtain ⟨q, hq⟩ : ∃ q, ((a : Int) == k) = q := ⟨_, rfl⟩
      have HS : Hid (kinP L k = if q then (if m then 2 else 1) else kinP (L.drop (j + 1)) k) := Lib.hid (by rw [← HK.out, HD.out, kinP, hq])
      have hb2 : Below w1.heap.size w1 (wr.alloc (.cells #[.int .i64 (a : Nat), .bool m] 47)) := hb.alloc hb.size _
      have hB := Blk.new wr 47 #[.int .i64 (a : Nat), .bool m]
      have d0 := hB.cell 0
      have d1 := hB.cell 1
      simp only [List.getElem?_toArray, List.getElem?_cons_zero, List.getElem?_cons_succ] at d0 d1
      cases q with
      | true =>
        cases m with
        | true =>
          go_wp2
          go_ret
          exact ⟨by rw [HW.out, HS.out]; rfl, below_step hb1 hb2 hsz1⟩
        | false =>
          go_wp2
          go_ret
          exact ⟨by rw [HW.out, HS.out]; rfl, below_step hb1 hb2 hsz1⟩
      | false =>
        have HK' : Hid (kinP (L.drop (j + 1)) k = kinP L k) := Lib.hid (by rw [HS.out]; rfl)
        go_wp2
        go_roundw
        case rel => exact ⟨j + 1, by go_num, by omega, HK', hb2⟩
        case measure => simp [intOf]; omega
    · have HV : Hid (kinP L k = 0) := Lib.hid (by rw [← HK.out, List.drop_eq_nil_of_le (by have := Hn.out; omega)]; rfl)
      go_wp2
      go_ret
      exact ⟨by rw [HW.out, HV.out]; rfl, hbb⟩

/-- The last below a number; whether there is one. -/
def prevGo (k : Int) (l : List (Nat × Bool)) (b : (Nat × Bool) × Bool) : (Nat × Bool) × Bool := l.foldl (fun b x => if (x.1 : Int) < k then (x, true) else b) b
theorem res_prev (w : World) (b : Nat) (tmps : Array Value) (ht : tmps.getD 4 undef = .pointer (some ⟨b, 0, none⟩)) {a : Int} {m : Bool} {v : Value} (h5 : tmps.getD 5 undef = v) (h : Blk w b 47 #[.int .i64 a, .bool m]) :
    (results Tryz.f67 tmps).run Tryz.prog w = .ok (.tuple #[.agg #[.int .i64 a, .bool m], v]) w := by
  have ht' : tmps[4]?.getD undef = .pointer (some ⟨b, 0, none⟩) := by simpa [Array.getD_eq_getD_getElem?] using ht
  have h5' : tmps[5]?.getD undef = v := by simpa [Array.getD_eq_getD_getElem?] using h5
  have h0 := h.cell 0
  have h1 := h.cell 1
  simp only [List.getElem?_toArray, List.getElem?_cons_zero, List.getElem?_cons_succ] at h0 h1
  simp [results, Tryz.results67, go_sem, ht', h5', h0, h1]

set_option maxRecDepth 100000 in
set_option maxHeartbeats 4000000 in
theorem tPrev_any (s : ByteArray) (k : Int) (w : World) (hE : Env w) (hs : s.size ≤ 1000000) :
    Calls Tryz.prog 67 #[.string s, .int .i64 k] w fun e w' => e = .returned (.tuple #[.agg #[.int .i64 (prevGo k (lChances gL s) ((0, false), false)).1.1, .bool (prevGo k (lChances gL s) ((0, false), false)).1.2], .bool (prevGo k (lChances gL s) ((0, false), false)).2]) ∧ Below w.heap.size w w' := by
  have hB0 : Below w.heap.size w (w.alloc (.cells #[.int .i64 0, .bool false] 47)) := (Below.refl _ _).alloc (Nat.le_refl _) _
  have hR0 := Blk.new w 47 #[.int .i64 0, .bool false]
  have HC := Lib.hid (tChances_any s _ (hE.below hB0) hs)
  obtain ⟨L, HL⟩ : ∃ L, Hid (lChances gL s = L) := ⟨_, Lib.hid rfl⟩
  rw [HL.out]
  obtain ⟨R, HR⟩ : ∃ R, Hid (prevGo k L ((0, false), false) = R) := ⟨_, Lib.hid rfl⟩
  rw [HR.out]
  clear hE
  go_enter Tryz.func67, Tryz.ntmps67
  go_wp2_with fail
  refine HC.out.mono ?_
  rw [HL.out]
  rintro e w1 ⟨A, n, c, rfl, ho, hb1⟩
  clear HC
  have hn : L.length = n := by have := ho.len; simpa using this
  have Hn := Lib.hid hn
  have hcap := ho.cap
  unfold maxLen at hcap
  have hR1 := hR0.below hb1
  have hB1 := hB0.trans (hb1.mono hB0.size)
  have ho := ho.more (b' := w.heap.size + 1) (by simp)
  have hsz1 := hB1.size
  clear hn hR0 hB0 hb1
  go_wp2_with fail
  go_loopw [5, 11] (fun v u wr => ∃ (j : Nat) (a : Nat) (m b : Bool), v = .bool b ∧ u = .int .i64 j ∧ j ≤ n ∧ Hid (prevGo k (L.drop j) ((a, m), b) = R) ∧ Blk wr w.heap.size 47 #[.int .i64 (a : Nat), .bool m] ∧ Own wr (w.heap.size + 1) 47 2 A n c (L.map encC) ∧ Below w.heap.size w wr) (fun _ u _ => n - (intOf u).toNat)
  case atStart => exact ⟨0, 0, false, false, rfl, rfl, by omega, HR, hR1, ho, hB1⟩
  case round =>
    clear hR1 ho hB1
    obtain ⟨j, a0, m0, b0, rfl, rfl, hj, HK, hR, ho, hb⟩ := hrel
    have hszr := hb.size
    by_cases hlt : j < n
    · obtain ⟨⟨a, m⟩, Hx⟩ : ∃ x, Hid (L[j]? = some x) := ⟨_, Lib.hid (List.getElem?_eq_getElem (by have := Hn.out; omega))⟩
      obtain ⟨b, off, rfl, c0, c1⟩ := (ho.rd (by decide)).atC Hx.out
      simp only at c0 c1
      have HD := Lib.hid (drop_of Hx.out)
      have HS : Hid (prevGo k (L.drop (j + 1)) (if (a : Int) < k then ((a, m), true) else ((a0, m0), b0)) = R) := Lib.hid (by rw [← HK.out, HD.out]; rfl)
      have hb2 : Below w.heap.size w (wr.alloc (.cells #[.int .i64 (a : Nat), .bool m] 47)) := hb.alloc hb.size _
      have hB := Blk.new wr 47 #[.int .i64 (a : Nat), .bool m]
      have hR2 := hR.alloc (.cells #[.int .i64 (a : Nat), .bool m] 47)
      have ho2 := ho.alloc (.cells #[.int .i64 (a : Nat), .bool m] 47)
      have d0 := hB.cell 0
      have d1 := hB.cell 1
      have r0 := hR2.cell 0
      have r1 := hR2.cell 1
      have f0 := hR2.frozen 0
      have f1 := hR2.frozen 1
      simp only [List.getElem?_toArray, List.getElem?_cons_zero, List.getElem?_cons_succ] at d0 d1 r0 r1
      by_cases hq : (a : Int) < k
      · have HK' : Hid (prevGo k (L.drop (j + 1)) ((a, m), true) = R) := Lib.hid (by rw [← HS.out, if_pos hq])
        have hl1 : ∀ z, (some ⟨b, off, none⟩ : Option Addr) = some z → z.block ≠ w.heap.size := fun z hz => by have := (ho.lt z hz).1; omega
        have hbf := (hb2.setCell (p := ⟨w.heap.size, 0, none⟩) (Nat.le_refl _) (.int .i64 (a : Nat))).setCell (p := ⟨w.heap.size, 1, none⟩) (Nat.le_refl _) (.bool m)
        have hof := (ho2.setCell (p := ⟨w.heap.size, 0, none⟩) hl1 (.int .i64 (a : Nat))).setCell (p := ⟨w.heap.size, 1, none⟩) hl1 (.bool m)
        have hRf := (hR2.set_ 0 (.int .i64 (a : Nat))).set_ 1 (.bool m)
        go_wp2
        go_roundw
        case rel => exact ⟨j + 1, a, m, true, rfl, by go_num, by omega, HK', by simpa using hRf, hof, hbf⟩
        case measure => simp [intOf]; omega
      · have HK' : Hid (prevGo k (L.drop (j + 1)) ((a0, m0), b0) = R) := Lib.hid (by rw [← HS.out, if_neg hq])
        go_wp2
        go_roundw
        case rel => exact ⟨j + 1, a0, m0, b0, rfl, by go_num, by omega, HK', hR2, ho2, hb2⟩
        case measure => simp [intOf]; omega
    · have HV : Hid (R = ((a0, m0), b0)) := Lib.hid (by rw [← HK.out, List.drop_eq_nil_of_le (by have := Hn.out; omega)]; rfl)
      have r0 := hR.cell 0
      have r1 := hR.cell 1
      have f0 := hR.frozen 0
      have f1 := hR.frozen 1
      simp only [List.getElem?_toArray, List.getElem?_cons_zero, List.getElem?_cons_succ] at r0 r1
      have hRf := (hR.set_ 0 (.int .i64 (a0 : Nat))).set_ 1 (.bool m0)
      have hbf := (hb.setCell (p := ⟨w.heap.size, 0, none⟩) (Nat.le_refl _) (.int .i64 (a0 : Nat))).setCell (p := ⟨w.heap.size, 1, none⟩) (Nat.le_refl _) (.bool m0)
      go_wp2
      refine bodyPost_ret (res_prev _ w.heap.size _ rfl rfl (by simpa using hRf)) rfl ?_
      exact ⟨by rw [HV.out]; rfl, hbf⟩
end Go.Proofs.YtlbfbkdcjdeagaaGreatDoor

/-
  line: Lines and what goes over it, walked.
-/
namespace Go.Proofs.YtlbfbkdcjdeagaaGreatDoor
open Go.RowKit Go.Shelf
attribute [local go_sem] Oper.semAt_some

/-- A line, as the iterator gives it. -/
def encLn (s : ByteArray) (x : Nat × Nat) : Array Value := #[.int .i64 ((clP s x).1 : Nat), .int .i64 ((clP s x).2 : Nat)]
theorem linP_len : ∀ (L : List (Nat × Bool)) (f : Nat), (linP f L).length ≤ L.length
  | [], _ => by simp [linP]
  | (a, m) :: r, f => by
    rw [linP]
    split
    · have := linP_len r a; simp only [List.length_cons]; omega
    · have := linP_len r f; simp only [List.length_cons]; omega
theorem chances_len' (s : ByteArray) : (lChances gL s).length ≤ s.size + 1 := by
  have h1 : ∀ (c : List Int) (P : List Nat) (i : Nat), (lPick c i P).length ≤ P.length := fun c P => by
    induction P with
    | nil => intro i; simp [lPick]
    | cons a r ih => intro i; rw [lPick, List.length_append]; have := ih (i + 1); split <;> simp <;> omega
  unfold lChances
  rw [List.length_append]
  have h2 := h1 (lCls gL s) ((runesP s).map (·.2.1)) 0
  rw [List.length_map] at h2
  have h3 := runesP_len s
  have h4 : (if s.size = 0 then [] else [(s.size, true)] : List (Nat × Bool)).length ≤ 1 := by split <;> simp
  omega
set_option maxRecDepth 100000 in
theorem tLines_any (s : ByteArray) (w : World) : Calls Tryz.prog 38 #[.string s] w fun e w' => ∃ bs, e = .returned (.func (.func 74) #[] #[.pointer (some ⟨bs, 0, none⟩)]) ∧ w'.cell? ⟨bs, 0, none⟩ = some (.string s) ∧ Below w.heap.size w w' := by
  have hmf : ∀ (fn : Fn) (first cap : Array Value) (w : World), (Instr.makeFunc fn first cap).run Tryz.prog w = .ok (.func fn first cap) w := fun _ _ _ _ => rfl
  go_enter Tryz.func38, Tryz.ntmps38
  go_wp2
  go_ret
  exact ⟨_, rfl, (Blk.new w 9 #[.string s]).cell 0, (Below.refl _ _).alloc (Nat.le_refl _) _⟩
set_option maxRecDepth 100000 in
set_option maxHeartbeats 4000000 in
theorem tLines_seq (n : Nat) (hn : 1 ≤ n) (w : World) (s : ByteArray) (bs : Nat) (hE : Env w) (hs : s.size ≤ 1000000) (h : w.cell? ⟨bs, 0, none⟩ = some (.string s)) :
    SeqStopsK Fence.wide n Tryz.prog 74 #[.pointer (some ⟨bs, 0, none⟩)] (encLn s) (KT 47 (fun _ => False)) (fun ys => ys = linesP gL s) (fun pre => pre <+: linesP gL s) (linesP gL s).length w := by
  intro l J Jx W hW hJ _ hY h0
  have hc1 : W.cell? ⟨bs, 0, none⟩ = some (.string s) := cell_keep h hW
  have hWz := hW.size
  have HC := Lib.hid (tChances_any s W (hE.below hW) hs)
  have HCl : Hid (∀ x ∈ linesP gL s, clP s x = x) := Lib.hid (fun x hx => by
    obtain ⟨h1, h2, _⟩ := lines_in hx
    exact clP_in ⟨Nat.le_of_lt h1, h2⟩)
  have HLz := Lib.hid (chances_len' s)
  unfold linesP at hY HCl ⊢
  obtain ⟨L, HL⟩ : ∃ L, Hid (lChances gL s = L) := ⟨_, Lib.hid rfl⟩
  rw [HL.out] at HC hY HCl HLz ⊢
  clear hE h
  refine callsIn_of_wp Tryz.func74 rfl trivial ?_ rfl
  simp only [Tryz.ntmps74, List.size_toArray, List.length_cons, List.length_nil, Nat.reduceAdd, Nat.reduceSub, Array.replicate_succ, Array.replicate_zero, List.push_toArray, List.append_toArray, List.nil_append, List.cons_append]
  refine wpIn_wide.2 ?_
  go_wp2_with fail
  refine HC.out.mono ?_
  rintro e w1 ⟨A, m, c, rfl, ho, hb1⟩
  have hJ1 : J [] w1 := abides_below hJ h0 hb1
  have hm : L.length = m := by have := ho.len; simpa using this
  have hz : m ≤ 1000001 := by have := HLz.out; omega
  have Hm := Lib.hid hm
  clear hm
  go_wp2_with fail
  refine (wpIn_wide (n := n)).1 ?_
  gi_loopw [3, 9] (fun u v wr => ∃ (f i : Nat) (pre : List (Nat × Nat)), u = .int .i64 f ∧ v = .int .i64 i ∧ i ≤ m ∧ Hid (pre ++ linP f (L.drop i) = linP 0 L) ∧ J pre wr ∧ Own wr W.heap.size 47 2 A m c (L.map encC)) (fun _ v _ => m - (intOf v).toNat)
  case atStart => exact ⟨0, 0, [], rfl, rfl, by omega, Lib.hid rfl, hJ1, ho⟩
  case round =>
    obtain ⟨f, i, pre, rfl, rfl, hi, HP, hJr, hor⟩ := hrel
    by_cases hlt : i < m
    · obtain ⟨⟨a, q⟩, Hx⟩ : ∃ x, Hid (L[i]? = some x) := ⟨_, Lib.hid (List.getElem?_eq_getElem (by have := Hm.out; omega))⟩
      have rd := hor.rd (by decide)
      obtain ⟨b, off, rfl, c0, c1⟩ := rd.atC Hx.out
      have hdr := linP_snoc L i Hx.out
      have HP2 := HP.out
      rw [hdr, linP] at HP2
      have hJa : J pre (wr.alloc (.cells #[.int .i64 (a : Nat), .bool q] 47)) := abides_below hJ hJr ((Below.refl _ _).alloc (Nat.le_refl _) _)
      have hoa := hor.alloc (.cells #[.int .i64 (a : Nat), .bool q] 47)
      have Ba : Blk (wr.alloc (.cells #[.int .i64 (a : Nat), .bool q] 47)) wr.heap.size 47 #[.int .i64 (a : Nat), .bool q] := Blk.new _ _ _
      simp only at c0 c1
      clear hdr HP rd
      cases q with
      | false =>
        have HP3 : Hid (pre ++ linP f (L.drop (i + 1)) = linP 0 L) := Lib.hid HP2
        clear HP2
        gi_wp2
        go_roundw
        case rel => exact ⟨f, i + 1, pre, rfl, by go_num, by omega, HP3, hJa, hoa⟩
        case measure => simp [intOf]; omega
      | true =>
        have HP3 : Hid (pre ++ [(f, a)] ++ linP a (L.drop (i + 1)) = linP 0 L) := Lib.hid (by rw [List.append_assoc]; exact HP2)
        have hpx : pre ++ [(f, a)] <+: linP 0 L := ⟨_, HP3.out⟩
        have hlen : pre.length < (linP 0 L).length := by have := hpx.length_le; rw [List.length_append, List.length_singleton] at this; omega
        have hcl := HCl.out (f, a) (hpx.subset (by simp))
        clear HP2
        obtain ⟨fn, tmps, assign, body, hy, hR⟩ := hY pre (f, a) _ hJa hlen
        unfold encLn at hy
        rw [hcl] at hy
        simp only at hy
        clear hcl hlen
        gi_wp2_with fail
        refine hR.mono ?_
        rintro e W4 (⟨rfl, hJ4, hk4⟩ | ⟨rfl, hJx4⟩)
        · have ho4 := hk4.own hoa (fun _ h => h.elim)
          have B4 := hk4.blk Ba (fun h => h)
          have e0 := B4.cell 0
          simp only [List.getElem?_toArray, List.getElem?_cons_zero] at e0
          gi_wp2_with fail
          go_roundw
          case rel => exact ⟨a, i + 1, pre ++ [(f, a)], rfl, by go_num, by omega, HP3, hJ4, ho4⟩
          case measure => simp [intOf]; omega
        · gi_wp2
          refine bodyPost_ret (results_none rfl _ _ _) rfl ?_
          exact ⟨⟨_, rfl⟩, .inr ⟨_, hpx, hJx4⟩⟩
    · have hend : pre = linP 0 L := by
        have h := HP.out
        rw [List.drop_eq_nil_of_le (by have := Hm.out; omega), linP, List.append_nil] at h
        exact h
      subst hend
      gi_wp2
      go_end0
      first | exact ⟨⟨_, rfl⟩, .inl ⟨_, rfl, hJr⟩⟩ | exact ⟨⟨_, rfl⟩, .inl hJr⟩
end Go.Proofs.YtlbfbkdcjdeagaaGreatDoor

/-
  kerflaw14: chances of two lists that are the same; live, walked.
-/
namespace Go.Proofs.YtlbfbkdcjdeagaaGreatDoor
open Go.RowKit

theorem guardC (op : BinOp) (x y : Operand) (xs ys : Array Value) (w : World) : (eqGuard op 47 x y (.agg xs) (.agg ys)).run Tryz.prog w = .ok () w :=
  run_eqGuard_agg w op _ x y xs ys (by kernel_rfl)
theorem eqlC (a : Int) (m : Bool) (w : World) : (binOp .eql 47 (.agg #[.int .i64 a, .bool m]) (.agg #[.int .i64 a, .bool m])).run Tryz.prog w = .ok (.bool true) w := by
  have hS : Tryz.prog.underlying 47 = some (.struct (Tryz.prog.fieldsOf 47)) := by kernel_rfl
  have hp : Tryz.prog.stoodInHeld 47 = false := by kernel_rfl
  have u3 := Tryz.underlying3
  have a3 := Tryz.isAgg3
  have z3 := Tryz.sizeOf3
  have u4 := Tryz.underlying4
  have a4 := Tryz.isAgg4
  have z4 := Tryz.sizeOf4
  rw [run_eql_struct, show (10000 : Nat) = 9999 + 1 from rfl, run_equalIn_agg w 9999 _ _ _ hS hp]
  simp only [Program.fieldsOf, Tryz.underlying47]
  go_simp
theorem neqC (a : Int) (m : Bool) (w : World) : (binOp .neq 47 (.agg #[.int .i64 a, .bool m]) (.agg #[.int .i64 a, .bool m])).run Tryz.prog w = .ok (.bool false) w := by
  have h := eqlC a m w
  rw [run_eql_struct] at h
  rw [run_neq_struct]
  cases hq : (Op.equalIn 10000 47 (.agg #[.int .i64 a, .bool m]) (.agg #[.int .i64 a, .bool m])).run Tryz.prog w with
  | ok b' w' => rw [hq] at h; simp at h; simp [h]
  | _ => rw [hq] at h; simp at h
set_option maxRecDepth 100000 in
set_option maxHeartbeats 2000000 in
theorem ychances_any (A B : Option Addr) (n c e : Nat) (l : List (Nat × Bool)) (w : World) (hA : Rd w 2 A (l.map encC)) (hB : Rd w 2 B (l.map encC)) (hl : l.length = n) (hn : n ≤ 4000000) :
    Calls Tryz.prog 37 #[.slice A n c, .slice B n e] w fun e w' => e = .returned (.bool true) ∧ Below w.heap.size w w' := by
  have Hl := Lib.hid hl
  have hg := guardC
  clear hl
  go_enter Tryz.func37, Tryz.ntmps37
  go_wp2
  go_loopw [5] (fun v wr => ∃ i k : Nat, v = .int .i64 i ∧ i ≤ n ∧ wr = w.drewN k) (fun v _ => n - (intOf v).toNat)
  case atStart => exact ⟨0, 0, rfl, by omega, rfl⟩
  case round =>
    obtain ⟨i, k, rfl, hi, rfl⟩ := hrel
    by_cases hlt : i < n
    · obtain ⟨⟨a, m⟩, Hx⟩ : ∃ x, Hid (l[i]? = some x) := ⟨_, Lib.hid (List.getElem?_eq_getElem (show i < l.length by have := Hl.out; omega))⟩
      obtain ⟨b, off, rfl, h1, h2⟩ := hA.atC Hx.out
      obtain ⟨b', off', rfl, k1, k2⟩ := hB.atC Hx.out
      simp only at h1 h2 k1 k2
      have hq := fun W => neqC (a : Nat) m W
      go_wp2_with fail
      go_quiet (fail)
      go_wp2
      go_roundw
      case rel => exact ⟨i + 1, _, by go_num, by omega, by first | rfl | exact World.drewN_drewN _ _ _⟩
      case measure => simp [intOf]; omega
    · go_wp2
      go_ret
      exact ⟨rfl, below_refl_drewN w k⟩

theorem live_chances : lChances gL ⟨#[97, 32, 98, 10, 99]⟩ = [(2, false), (4, true), (5, true)] := by kernel_rfl
theorem live_prev : prevGo 3 (lChances gL ⟨#[97, 32, 98]⟩) ((0, false), false) = ((2, false), true) := by kernel_rfl
theorem live_kind : kinP (lChances gL ⟨#[97, 32, 98]⟩) 2 = 1 := by kernel_rfl
theorem live_trail : trailP gL ⟨#[97, 98, 32, 10]⟩ = 2 := by kernel_rfl
set_option maxRecDepth 100000 in
set_option maxHeartbeats 4000000 in
theorem ylive_any (w : World) (hE : Env w) : Calls Tryz.prog 29 #[] w fun e w' => e = .returned (.bool true) ∧ Below w.heap.size w w' := by
  have H1 := Lib.hid (tChances_any ⟨#[97, 32, 98, 10, 99]⟩ w hE (by decide))
  have H2 := Lib.hid (fun W (h : Env W) => tPrev_any ⟨#[97, 32, 98]⟩ 3 W h (by decide))
  have H3 := Lib.hid (fun W (h : Env W) => tKind_any ⟨#[97, 32, 98]⟩ 2 W h (by decide))
  have H4 := Lib.hid (fun W (h : Env W) => tTrail_any ⟨#[97, 98, 32, 10]⟩ W h (by decide))
  rw [live_chances] at H1
  simp only [live_prev] at H2
  simp only [live_kind] at H3
  simp only [live_trail] at H4
  go_enter Tryz.func29, Tryz.ntmps29
  go_wp2_with fail
  refine H1.out.mono ?_
  rintro e w1 ⟨A, n, c, rfl, ho, hb1⟩
  obtain rfl : 3 = n := ho.len
  go_wp2_with fail
  refine (H2.out _ (hE.below hb1)).mono ?_
  rintro e w2 ⟨rfl, hb2⟩
  have hbb := below_two hb1 hb2
  have ho := ho.below hb2
  have hB := Blk.new w2 47 #[.int .i64 2, .bool false]
  have hb3 : Below w.heap.size w (w2.alloc (.cells #[.int .i64 2, .bool false] 47)) := hbb.alloc hbb.size _
  have ho := ho.alloc (.cells #[.int .i64 2, .bool false] 47)
  have d0 := hB.cell 0
  simp only [List.getElem?_toArray, List.getElem?_cons_zero] at d0
  have hb4 : Below w.heap.size w ((w2.alloc (.cells #[.int .i64 2, .bool false] 47)).alloc (.cells #[.int .i64 2, .bool false, .int .i64 4, .bool true, .int .i64 5, .bool true] 47)) := hb3.alloc hb3.size _
  have ho := ho.alloc (.cells #[.int .i64 2, .bool false, .int .i64 4, .bool true, .int .i64 5, .bool true] 47)
  have hr := Rd.many (w2.alloc (.cells #[.int .i64 2, .bool false] 47)) 47 2 ([((2 : Nat), false), (4, true), (5, true)].map encC) #[.int .i64 2, .bool false, .int .i64 4, .bool true, .int .i64 5, .bool true] rfl (by intro x hx; obtain ⟨y, _, rfl⟩ := List.mem_map.1 hx; rfl)
  rw [show (w2.alloc (.cells #[.int .i64 2, .bool false] 47)).heap.size = w2.heap.size + 1 by simp] at hr
  have HY := Lib.hid (ychances_any A (some ⟨w2.heap.size + 1, 0, none⟩) 3 c 3 [((2 : Nat), false), (4, true), (5, true)] _ (ho.rd (by decide)) hr rfl (by omega))
  have d0 := cell_keep d0 ((Below.refl _ _).alloc (Nat.le_refl _) (.cells #[.int .i64 2, .bool false, .int .i64 4, .bool true, .int .i64 5, .bool true] 47))
  clear H1 H2 hr ho hB hb3 hbb
  go_wp2_with fail
  refine HY.out.mono ?_
  rintro e w3 ⟨rfl, hb5⟩
  have d0 := cell_keep d0 hb5
  have hb6 := below_step hb4 hb5 hb4.size
  go_wp2_with fail
  refine (H3.out _ (hE.below hb6)).mono ?_
  rintro e w4 ⟨rfl, hb7⟩
  have d0 := cell_keep d0 hb7
  have hb8 := below_step hb6 hb7 hb6.size
  go_wp2_with fail
  refine (H4.out _ (hE.below hb8)).mono ?_
  rintro e w5 ⟨rfl, hb9⟩
  have d0 := cell_keep d0 hb9
  have hb10 := below_step hb8 hb9 hb8.size
  go_wp2
  go_ret
  exact ⟨rfl, hb10⟩
end Go.Proofs.YtlbfbkdcjdeagaaGreatDoor

