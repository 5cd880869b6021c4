/-
  Several texts in one, in their build order: Te, Tk, Tm, Tu, Ty, Tv.
-/
import Derived.Deep.RegionHeld3
import Derived.Deep.DeepCutAuto
import Derived.Test.YthlnfefpdmecaaaGreatDoorYLineNeverTc
import Derived.Test.YthlnfefpdmecaaaGreatDoorYLineNever0b
import Derived.Test.YthlnfefpdmecaaaGreatDoorZ0a
import Derived.Test.YthlnfefpdmecaaaGreatDoorYLineNever1a
/-
  line.Chances, walked.
-/
namespace Go.Proofs.YthlnfefpdmecaaaGreatDoor
open Go.RowKit

def encC (x : Nat × Bool) : List Value := [.int .i64 (x.1 : Nat), .bool x.2]
theorem encC_ok (l : List (Nat × Bool)) : ∀ y ∈ l.map encC, y.length = 2 ∧ ∀ u ∈ y, u.oneCell' = true := by
  intro y hy; obtain ⟨r, _, rfl⟩ := List.mem_map.1 hy
  exact ⟨rfl, by simp [encC, Value.oneCell']⟩
theorem infoC : (Tryz.prog.info? 92).map (fun i => (i.zero, i.size, i.bytes)) = some (some (.agg #[.int .i64 0, .bool false]), 2, 16) := by kernel_rfl
theorem lpick_next {c : List Int} {P : List Nat} {i a : Nat} (h : P[i]? = some a) : lPick c 0 (P.take (i + 1)) = lPick c 0 (P.take i) ++ (if i ≠ 0 ∧ lCut c i = true then [(a, lMust (c.getD (i - 1) 0))] else []) := by
  obtain ⟨h1, h2⟩ := List.getElem?_eq_some_iff.1 h
  rw [List.take_add_one, h, Option.toList_some, lPick_append, Nat.zero_add, List.length_take, Nat.min_eq_left (by omega), lPick, lPick, List.append_nil]
theorem lpick_one (c : List Int) (P : List Nat) : lPick c 0 (P.take 1) = [] := by
  cases P with
  | nil => rfl
  | cons a r => simp [lPick]

set_option maxRecDepth 100000 in
set_option maxHeartbeats 8000000 in
theorem tChances_any (s : ByteArray) (w : World) (hE : Env w) (hs : s.size ≤ 1000000) :
    Calls Tryz.prog 85 #[.string s] w fun e w' => ∃ A n c, e = .returned (.slice A n c) ∧ Own w' w.heap.size 92 2 A n c ((lChances gL s).map encC) ∧ Below w.heap.size w w' := by
  obtain ⟨i0, hi0, hz0, hz1, hz2⟩ := info_parts infoC
  have HC := Lib.hid (tscan_any s w hE hs)
  obtain ⟨P, HP⟩ : ∃ P, Hid ((runesP s).map (·.2.1) = P) := ⟨_, Lib.hid rfl⟩
  obtain ⟨C, HCl⟩ : ∃ C, Hid (lCls gL s = C) := ⟨_, Lib.hid rfl⟩
  have HW : Hid (lChances gL s = lPick C 0 P ++ (if s.size = 0 then [] else [(s.size, true)])) := Lib.hid (by rw [← HP.out, ← HCl.out]; rfl)
  have hPl : P.length = C.length := by rw [← HP.out, ← HCl.out, List.length_map, lCls_len]
  have hPz : P.length ≤ s.size := by rw [← HP.out, List.length_map]; exact runesP_len s
  clear hE
  go_enter Tryz.func85, Tryz.ntmps85
  go_wp2_with fail
  refine HC.out.mono ?_
  rintro e w1 ⟨A1, n1, c1, A2, n2, c2, rfl, o1, o2, hb1⟩
  clear HC
  rw [HP.out] at o1
  rw [HCl.out] at o2
  have hn1 : P.length = n1 := by have := o1.len; simpa using this
  have hn2 : C.length = n2 := by have := o2.len; simpa using this
  obtain rfl : n2 = n1 := by omega
  have Hn2 := Lib.hid hn2
  have Hn1 := Lib.hid hn1
  have hnz : n2 ≤ s.size := by omega
  clear hn1 hn2 hPl hPz
  have hK := Blk.new w1 122 #[.slice A1 n2 c1, .slice A2 n2 c2]
  have hb2 : Below w1.heap.size w1 (w1.alloc (.cells #[.slice A1 n2 c1, .slice A2 n2 c2] 122)) := (Below.refl _ _).alloc (Nat.le_refl _) _
  have o1 := o1.below hb2
  have o2 := o2.below hb2
  have hb3 := below_step hb1 hb2 hb1.size
  have k0 := hK.cell 0
  have k1 := hK.cell 1
  simp only [List.getElem?_toArray, List.getElem?_cons_zero, List.getElem?_cons_succ] at k0 k1
  go_wp2_with fail
  generalize (w1.alloc (.cells #[.slice A1 n2 c1, .slice A2 n2 c2] 122)) = w3 at hK o1 o2 hb3 k0 k1 ⊢
  generalize w1.heap.size = bx at hK k0 k1 ⊢
  have rd1 := o1.rd (by decide)
  have rd2 := o2.rd (by decide)
  have hsz3 := hb3.size
  clear o1 o2 hb1 hb2
  go_loopw [4, 5] (fun v u wr => ∃ (i : Nat) (A : Option Addr) (n c : Nat) (O : List (Nat × Bool)), v = .slice A n c ∧ u = .int .i64 i ∧ 1 ≤ i ∧ i ≤ n2 + 1 ∧ Own wr w3.heap.size 92 2 A n c (O.map encC) ∧ n ≤ i ∧ Hid (O = lPick C 0 (P.take i)) ∧ Below w3.heap.size w3 wr) (fun _ u _ => n2 - (intOf u).toNat)
  case atStart => exact ⟨1, none, 0, 0, [], rfl, rfl, by omega, by omega, Own.nil_ _ _ _ _, by omega, Lib.hid (lpick_one C P).symm, Below.refl _ _⟩
  case round =>
    obtain ⟨i, A, n, c, O, rfl, rfl, h1i, hi, ho, hni, HO, hb⟩ := hrel
    have hszr := hb.size
    by_cases hlt : i < n2
    · obtain ⟨a, Ha⟩ : ∃ a, Hid (P[i]? = some a) := ⟨_, Lib.hid (List.getElem?_eq_getElem (by have := Hn1.out; omega))⟩
      obtain ⟨p, Hp⟩ : ∃ a, Hid (C[i - 1]? = some a) := ⟨_, Lib.hid (List.getElem?_eq_getElem (by have := Hn2.out; omega))⟩
      obtain ⟨b1, off1, rfl, hc1⟩ := rd1.atP Ha.out
      obtain ⟨b2, off2, rfl, hc2⟩ := rd2.atZ Hp.out
      have j0 := cell_keep k0 hb
      have j1 := cell_keep k1 hb
      have HN := Lib.hid (lpick_next (c := C) Ha.out)
      rw [← HO.out, getD_of Hp.out] at HN
      obtain ⟨j, hj⟩ : ∃ j, i - 1 = j := ⟨_, rfl⟩
      have e1 : (i : Int) - 1 = (j : Int) := by omega
      rw [hj] at hc2
      clear hj
      have HCu := Lib.hid (tcut_any (some ⟨b1, off1, none⟩) (some ⟨b2, off2, none⟩) n2 c1 n2 c2 C i wr (rd2.below hb) Hn2.out (by omega) (by omega) (by omega))
      cases hcu : lCut C i with
      | true =>
        have HN' : Hid (O ++ [(a, lMust p)] = lPick C 0 (P.take (i + 1))) := Lib.hid (by rw [HN.out, if_pos ⟨by omega, hcu⟩])
        obtain ⟨m, Hm⟩ : ∃ m, Hid (lMust p = m) := ⟨_, Lib.hid rfl⟩
        rw [Hm.out] at HN'
        rw [hcu] at HCu
        clear hcu HN
        go_upto_region 7 with (go_at_call 129; refine HCu.out.mono ?_; rintro e w5 ⟨rfl, hb5⟩; have hbb := below_step hb hb5 hb.size; have ho5 := ho.below hb5)
        have hs5 := hbb.size
        have q1 : IntKind.i64.wrap ((i : Int) - 1) = (i : Int) - 1 := IntWalk.i64_in _ (by omega)
        have q2 : IntKind.i64.wrap (j : Int) = (j : Int) := IntWalk.i64_in _ (by omega)
        have q3 : (j : Int) < (n2 : Int) := by omega
        have q4 : (i : Int) < (n2 : Int) := by omega
        have q5 : (0 : Int) ≤ (j : Int) := by omega
        have q6 : j < n2 := by omega
        have HST := Lib.hid (fun (V : World) (h : Below w3.heap.size w3 V) => And.intro (cell_keep k0 h) (And.intro (cell_keep k1 h) (And.intro (cell_keep hc1 h) (And.intro (cell_keep hc2 h) h))))
        clear HCu ho hb hszr j0 j1
        go_wp2_with fail
        go_region_held3 (fun V => V.cell? ⟨bx, 0, none⟩ = some (.slice (some ⟨b1, off1, none⟩) n2 c1) ∧ V.cell? ⟨bx, 1, none⟩ = some (.slice (some ⟨b2, off2, none⟩) n2 c2) ∧ V.cell? ⟨b1, off1 + i, none⟩ = some (.int .i64 (a : Nat)) ∧ V.cell? ⟨b2, off2 + j, none⟩ = some (.int .i64 p) ∧ Below w3.heap.size w3 V)
          (first | exact HST.out _ hb4 | exact HST.out _ (hbz.alloc hbz.size _) | exact HST.out _ hbz | exact HST.out _ hbb | exact HST.out _ (below_drewN hbb 1))
          (first
            | (go_at_call 130; go_split_ands; refine (tmust_any _ _).mono ?_; rw [Hm.out]; rintro e wz ⟨rfl, hz⟩; have hbz := below_step (below_drewN hbb 1) hz hbb.size; have ho6 := Own.below (w := w5.drew) ho5 hz; have hsz := hbz.size)
            | (refine step_app rfl (.tmp 18) (.tmp 32) _ rfl w3.heap.size 92 i0 _ 2 16 Tryz.underlying89 hi0 hz0 hz1 hz2 rfl (by omega) A n c (O.map encC) rfl (ho6.alloc _) _ 1 1 [encC (a, m)] rfl rfl (Rd.newAt (by simp) rfl) (encC_ok [(a, m)]) (by unfold maxLen; omega) (by omega) (by simp; omega) ?_; intro A3 c3 w4 ho4 hg4 hA4; have hb4 := below_app (hbz.alloc (by omega) _) hg4 (by simp; omega) (fun a ha => by have := (ho6.lt a ha).1; omega)))
        go_wp2
        go_roundw
        case rel => exact ⟨i + 1, A3, n + 1, c3, O ++ [(a, m)], rfl, by go_num, by omega, by omega, by rw [List.map_append]; exact ho4, by omega, HN', hb4⟩
        case measure => simp [intOf]; omega
      | false =>
        have HN' : Hid (O = lPick C 0 (P.take (i + 1))) := Lib.hid (by rw [HN.out, if_neg (by rw [hcu]; simp), List.append_nil])
        rw [hcu] at HCu
        clear hcu HN
        go_wp2_with (go_at_call 129; refine HCu.out.mono ?_; rintro e w5 ⟨rfl, hb5⟩; have hbb := below_step hb hb5 hb.size; have ho5 := ho.below hb5)
        go_roundw
        case rel => exact ⟨i + 1, A, n, c, O, rfl, by go_num, by omega, by omega, ho5, by omega, HN', hbb⟩
        case measure => simp [intOf]; omega
    · have hO : Hid (O = lPick C 0 P) := Lib.hid (by rw [HO.out, List.take_of_length_le (by have := Hn1.out; omega)])
      have j0 := cell_keep k0 hb
      by_cases hz : 0 < s.size
      · have HV : Hid (O ++ [(s.size, true)] = lChances gL s) := Lib.hid (by rw [HW.out, hO.out, if_neg (by omega)])
        go_wp2_with (at_builtin; go_must (refine wpList_app rfl (.tmp 37) (.tmp 41) _ rfl w3.heap.size 92 i0 _ 2 16 Tryz.underlying89 hi0 hz0 hz1 hz2 rfl (by omega) A n c (O.map encC) rfl (ho.alloc _) _ 1 1 [encC (s.size, true)] rfl rfl (Rd.newAt (by simp) rfl) (encC_ok [(s.size, true)]) (by unfold maxLen; omega) (by omega) (by simp; omega) ?_); intro A3 c3 w4 ho4 hg4 hA4; have hb4 := below_app (hb.alloc (by omega) _) hg4 (by simp; omega) (fun a ha => by have := (ho.lt a ha).1; omega); clear hg4 hA4)
        go_ret
        exact ⟨A3, n + 1, c3, rfl, by rw [← HV.out, List.map_append]; exact ho4.more hsz3, below_step hb3 hb4 hsz3⟩
      · have HV : Hid (O = lChances gL s) := Lib.hid (by rw [HW.out, hO.out, if_pos (by omega), List.append_nil])
        go_wp2
        go_ret
        exact ⟨A, n, c, rfl, by rw [← HV.out]; exact ho.more hsz3, below_step hb3 hb hsz3⟩
end Go.Proofs.YthlnfefpdmecaaaGreatDoor

/-
  line.Kind and line.Prev, walked; kerflaw14.chances of two lists that are the same.
-/
namespace Go.Proofs.YthlnfefpdmecaaaGreatDoor
open Go.RowKit

/-- What a place is. -/
def kinP : List (Nat × Bool) → Int → Int
  | [], _ => 0
  | x :: r, k => if ((x.1 : Int) == k) then (if x.2 then 2 else 1) else kinP r k
theorem drop_of {α : Type} {l : List α} {i : Nat} {x : α} (h : l[i]? = some x) : l.drop i = x :: l.drop (i + 1) := by
  obtain ⟨h1, h2⟩ := List.getElem?_eq_some_iff.1 h
  rw [List.drop_eq_getElem_cons h1, h2]
theorem Rd.atC {w : World} {A : Option Addr} {l : List (Nat × Bool)} {k : Nat} {x : Nat × Bool} (h : Rd w 2 A (l.map encC)) (hk : l[k]? = some x) :
    ∃ b off, A = some ⟨b, off, none⟩ ∧ w.cell? ⟨b, off + k * 2, none⟩ = some (.int .i64 (x.1 : Nat)) ∧ w.cell? ⟨b, off + k * 2 + 1, none⟩ = some (.bool x.2) := by
  obtain ⟨b, off, rfl, hc⟩ := h (by intro e; cases l with | nil => simp at hk | cons _ _ => simp at e)
  have h0 := hc k 0 (encC x) (.int .i64 (x.1 : Nat)) (by simp [hk]) rfl
  have h1 := hc k 1 (encC x) (.bool x.2) (by simp [hk]) rfl
  exact ⟨b, off, rfl, by simpa using h0, h1⟩
theorem Rd.many (W : World) (t : TypeId) (s : Nat) (cs : List (List Value)) (arr : Array Value) (harr : arr = cs.flatten.toArray) (h : ∀ x ∈ cs, x.length = s) : Rd (W.alloc (.cells arr t)) s (some ⟨W.heap.size, 0, none⟩) cs := fun _ =>
  ⟨W.heap.size, 0, rfl, fun k j x u hx hu => by
    subst harr
    rw [(Blk.new W t cs.flatten.toArray).cell (0 + k * s + j), List.getElem?_toArray, Nat.zero_add]
    exact flatten_get h hx hu⟩

set_option maxRecDepth 100000 in
set_option maxHeartbeats 4000000 in
theorem tKind_any (s : ByteArray) (k : Int) (w : World) (hE : Env w) (hs : s.size ≤ 1000000) :
    Calls Tryz.prog 31 #[.string s, .int .i64 k] w fun e w' => e = .returned (.int .i64 (kinP (lChances gL s) k)) ∧ Below w.heap.size w w' := by
  have HC := Lib.hid (tChances_any s w hE hs)
  obtain ⟨L, HL⟩ : ∃ L, Hid (lChances gL s = L) := ⟨_, Lib.hid rfl⟩
  have HW : Hid (kinP (lChances gL s) k = kinP L k) := Lib.hid (by rw [HL.out])
  clear hE
  go_enter Tryz.func31, Tryz.ntmps31
  go_wp2_with fail
  refine HC.out.mono ?_
  rw [HL.out]
  rintro e w1 ⟨A, n, c, rfl, ho, hb1⟩
  clear HC
  have hn : L.length = n := by have := ho.len; simpa using this
  have Hn := Lib.hid hn
  have hcap := ho.cap
  unfold maxLen at hcap
  have rd := ho.rd (by decide)
  have hsz1 := hb1.size
  clear hn
  go_wp2_with fail
  go_loopw [10] (fun v wr => ∃ j : Nat, v = .int .i64 j ∧ j ≤ n ∧ Hid (kinP (L.drop j) k = kinP L k) ∧ Below w1.heap.size w1 wr) (fun v _ => n - (intOf v).toNat)
  case atStart => exact ⟨0, rfl, by omega, Lib.hid rfl, Below.refl _ _⟩
  case round =>
    obtain ⟨j, rfl, hj, HK, hb⟩ := hrel
    have hbb := below_step hb1 hb hsz1
    by_cases hlt : j < n
    · obtain ⟨⟨a, m⟩, Hx⟩ : ∃ x, Hid (L[j]? = some x) := ⟨_, Lib.hid (List.getElem?_eq_getElem (by have := Hn.out; omega))⟩
      obtain ⟨b, off, rfl, c0, c1⟩ := rd.atC Hx.out
      simp only at c0 c1
      have c0 := cell_keep c0 hb
      have c1 := cell_keep c1 hb
      have HD := Lib.hid (drop_of Hx.out)
      obtain ⟨q, hq⟩ : ∃ q, ((a : Int) == k) = q := ⟨_, rfl⟩
      have HS : Hid (kinP L k = if q then (if m then 2 else 1) else kinP (L.drop (j + 1)) k) := Lib.hid (by rw [← HK.out, HD.out, kinP, hq])
      have hb2 : Below w1.heap.size w1 (wr.alloc (.cells #[.int .i64 (a : Nat), .bool m] 92)) := hb.alloc hb.size _
      have hB := Blk.new wr 92 #[.int .i64 (a : Nat), .bool m]
      have d0 := hB.cell 0
      have d1 := hB.cell 1
      simp only [List.getElem?_toArray, List.getElem?_cons_zero, List.getElem?_cons_succ] at d0 d1
      cases q with
      | true =>
        cases m with
        | true =>
          go_wp2
          go_ret
          exact ⟨by rw [HW.out, HS.out]; rfl, below_step hb1 hb2 hsz1⟩
        | false =>
          go_wp2
          go_ret
          exact ⟨by rw [HW.out, HS.out]; rfl, below_step hb1 hb2 hsz1⟩
      | false =>
        have HK' : Hid (kinP (L.drop (j + 1)) k = kinP L k) := Lib.hid (by rw [HS.out]; rfl)
        go_wp2
        go_roundw
        case rel => exact ⟨j + 1, by go_num, by omega, HK', hb2⟩
        case measure => simp [intOf]; omega
    · have HV : Hid (kinP L k = 0) := Lib.hid (by rw [← HK.out, List.drop_eq_nil_of_le (by have := Hn.out; omega)]; rfl)
      go_wp2
      go_ret
      exact ⟨by rw [HW.out, HV.out]; rfl, hbb⟩

/-- The last below a number; whether there is one. -/
def prevGo (k : Int) (l : List (Nat × Bool)) (b : (Nat × Bool) × Bool) : (Nat × Bool) × Bool := l.foldl (fun b x => if (x.1 : Int) < k then (x, true) else b) b
theorem res_prev (w : World) (b : Nat) (tmps : Array Value) (ht : tmps.getD 4 undef = .pointer (some ⟨b, 0, none⟩)) {a : Int} {m : Bool} {v : Value} (h5 : tmps.getD 5 undef = v) (h : Blk w b 92 #[.int .i64 a, .bool m]) :
    (results Tryz.f86 tmps).run Tryz.prog w = .ok (.tuple #[.agg #[.int .i64 a, .bool m], v]) w := by
  have ht' : tmps[4]?.getD undef = .pointer (some ⟨b, 0, none⟩) := by simpa [Array.getD_eq_getD_getElem?] using ht
  have h5' : tmps[5]?.getD undef = v := by simpa [Array.getD_eq_getD_getElem?] using h5
  have h0 := h.cell 0
  have h1 := h.cell 1
  simp only [List.getElem?_toArray, List.getElem?_cons_zero, List.getElem?_cons_succ] at h0 h1
  simp [results, Tryz.results86, go_sem, ht', h5', h0, h1]

set_option maxRecDepth 100000 in
set_option maxHeartbeats 4000000 in
theorem tPrev_any (s : ByteArray) (k : Int) (w : World) (hE : Env w) (hs : s.size ≤ 1000000) :
    Calls Tryz.prog 86 #[.string s, .int .i64 k] w fun e w' => e = .returned (.tuple #[.agg #[.int .i64 (prevGo k (lChances gL s) ((0, false), false)).1.1, .bool (prevGo k (lChances gL s) ((0, false), false)).1.2], .bool (prevGo k (lChances gL s) ((0, false), false)).2]) ∧ Below w.heap.size w w' := by
  have hB0 : Below w.heap.size w (w.alloc (.cells #[.int .i64 0, .bool false] 92)) := (Below.refl _ _).alloc (Nat.le_refl _) _
  have hR0 := Blk.new w 92 #[.int .i64 0, .bool false]
  have HC := Lib.hid (tChances_any s _ (hE.below hB0) hs)
  obtain ⟨L, HL⟩ : ∃ L, Hid (lChances gL s = L) := ⟨_, Lib.hid rfl⟩
  rw [HL.out]
  obtain ⟨R, HR⟩ : ∃ R, Hid (prevGo k L ((0, false), false) = R) := ⟨_, Lib.hid rfl⟩
  rw [HR.out]
  clear hE
  go_enter Tryz.func86, Tryz.ntmps86
  go_wp2_with fail
  refine HC.out.mono ?_
  rw [HL.out]
  rintro e w1 ⟨A, n, c, rfl, ho, hb1⟩
  clear HC
  have hn : L.length = n := by have := ho.len; simpa using this
  have Hn := Lib.hid hn
  have hcap := ho.cap
  unfold maxLen at hcap
  have hR1 := hR0.below hb1
  have hB1 := hB0.trans (hb1.mono hB0.size)
  have ho := ho.more (b' := w.heap.size + 1) (by simp)
  have hsz1 := hB1.size
  clear hn hR0 hB0 hb1
  go_wp2_with fail
  go_loopw [5, 11] (fun v u wr => ∃ (j : Nat) (a : Nat) (m b : Bool), v = .bool b ∧ u = .int .i64 j ∧ j ≤ n ∧ Hid (prevGo k (L.drop j) ((a, m), b) = R) ∧ Blk wr w.heap.size 92 #[.int .i64 (a : Nat), .bool m] ∧ Own wr (w.heap.size + 1) 92 2 A n c (L.map encC) ∧ Below w.heap.size w wr) (fun _ u _ => n - (intOf u).toNat)
  case atStart => exact ⟨0, 0, false, false, rfl, rfl, by omega, HR, hR1, ho, hB1⟩
  case round =>
    clear hR1 ho hB1
    obtain ⟨j, a0, m0, b0, rfl, rfl, hj, HK, hR, ho, hb⟩ := hrel
    have hszr := hb.size
    by_cases hlt : j < n
    · obtain ⟨⟨a, m⟩, Hx⟩ : ∃ x, Hid (L[j]? = some x) := ⟨_, Lib.hid (List.getElem?_eq_getElem (by have := Hn.out; omega))⟩
      obtain ⟨b, off, rfl, c0, c1⟩ := (ho.rd (by decide)).atC Hx.out
      simp only at c0 c1
      have HD := Lib.hid (drop_of Hx.out)
      have HS : Hid (prevGo k (L.drop (j + 1)) (if (a : Int) < k then ((a, m), true) else ((a0, m0), b0)) = R) := Lib.hid (by rw [← HK.out, HD.out]; rfl)
      have hb2 : Below w.heap.size w (wr.alloc (.cells #[.int .i64 (a : Nat), .bool m] 92)) := hb.alloc hb.size _
      have hB := Blk.new wr 92 #[.int .i64 (a : Nat), .bool m]
      have hR2 := hR.alloc (.cells #[.int .i64 (a : Nat), .bool m] 92)
      have ho2 := ho.alloc (.cells #[.int .i64 (a : Nat), .bool m] 92)
      have d0 := hB.cell 0
      have d1 := hB.cell 1
      have r0 := hR2.cell 0
      have r1 := hR2.cell 1
      have f0 := hR2.frozen 0
      have f1 := hR2.frozen 1
      simp only [List.getElem?_toArray, List.getElem?_cons_zero, List.getElem?_cons_succ] at d0 d1 r0 r1
      by_cases hq : (a : Int) < k
      · have HK' : Hid (prevGo k (L.drop (j + 1)) ((a, m), true) = R) := Lib.hid (by rw [← HS.out, if_pos hq])
        have hl1 : ∀ z, (some ⟨b, off, none⟩ : Option Addr) = some z → z.block ≠ w.heap.size := fun z hz => by have := (ho.lt z hz).1; omega
        have hbf := (hb2.setCell (p := ⟨w.heap.size, 0, none⟩) (Nat.le_refl _) (.int .i64 (a : Nat))).setCell (p := ⟨w.heap.size, 1, none⟩) (Nat.le_refl _) (.bool m)
        have hof := (ho2.setCell (p := ⟨w.heap.size, 0, none⟩) hl1 (.int .i64 (a : Nat))).setCell (p := ⟨w.heap.size, 1, none⟩) hl1 (.bool m)
        have hRf := (hR2.set_ 0 (.int .i64 (a : Nat))).set_ 1 (.bool m)
        go_wp2
        go_roundw
        case rel => exact ⟨j + 1, a, m, true, rfl, by go_num, by omega, HK', by simpa using hRf, hof, hbf⟩
        case measure => simp [intOf]; omega
      · have HK' : Hid (prevGo k (L.drop (j + 1)) ((a0, m0), b0) = R) := Lib.hid (by rw [← HS.out, if_neg hq])
        go_wp2
        go_roundw
        case rel => exact ⟨j + 1, a0, m0, b0, rfl, by go_num, by omega, HK', hR2, ho2, hb2⟩
        case measure => simp [intOf]; omega
    · have HV : Hid (R = ((a0, m0), b0)) := Lib.hid (by rw [← HK.out, List.drop_eq_nil_of_le (by have := Hn.out; omega)]; rfl)
      have r0 := hR.cell 0
      have r1 := hR.cell 1
      have f0 := hR.frozen 0
      have f1 := hR.frozen 1
      simp only [List.getElem?_toArray, List.getElem?_cons_zero, List.getElem?_cons_succ] at r0 r1
      have hRf := (hR.set_ 0 (.int .i64 (a0 : Nat))).set_ 1 (.bool m0)
      have hbf := (hb.setCell (p := ⟨w.heap.size, 0, none⟩) (Nat.le_refl _) (.int .i64 (a0 : Nat))).setCell (p := ⟨w.heap.size, 1, none⟩) (Nat.le_refl _) (.bool m0)
      go_wp2
      refine bodyPost_ret (res_prev _ w.heap.size _ rfl rfl (by simpa using hRf)) rfl ?_
      exact ⟨by rw [HV.out]; rfl, hbf⟩
end Go.Proofs.YthlnfefpdmecaaaGreatDoor

/-
  kerflaw14: chances of two lists that are the same; live, walked.
-/
namespace Go.Proofs.YthlnfefpdmecaaaGreatDoor
open Go.RowKit

theorem guardC (op : BinOp) (x y : Operand) (xs ys : Array Value) (w : World) : (eqGuard op 92 x y (.agg xs) (.agg ys)).run Tryz.prog w = .ok () w :=
  run_eqGuard_agg w op _ x y xs ys (by kernel_rfl)
theorem eqlC (a : Int) (m : Bool) (w : World) : (binOp .eql 92 (.agg #[.int .i64 a, .bool m]) (.agg #[.int .i64 a, .bool m])).run Tryz.prog w = .ok (.bool true) w := by
  have hS : Tryz.prog.underlying 92 = some (.struct (Tryz.prog.fieldsOf 92)) := by kernel_rfl
  have hp : Tryz.prog.stoodInHeld 92 = false := by kernel_rfl
  have u3 := Tryz.underlying3
  have a3 := Tryz.isAgg3
  have z3 := Tryz.sizeOf3
  have u4 := Tryz.underlying4
  have a4 := Tryz.isAgg4
  have z4 := Tryz.sizeOf4
  rw [run_eql_struct, show (10000 : Nat) = 9999 + 1 from rfl, run_equalIn_agg w 9999 _ _ _ hS hp]
  simp only [Program.fieldsOf, Tryz.underlying92]
  go_simp
theorem neqC (a : Int) (m : Bool) (w : World) : (binOp .neq 92 (.agg #[.int .i64 a, .bool m]) (.agg #[.int .i64 a, .bool m])).run Tryz.prog w = .ok (.bool false) w := by
  have h := eqlC a m w
  rw [run_eql_struct] at h
  rw [run_neq_struct]
  cases hq : (Op.equalIn 10000 92 (.agg #[.int .i64 a, .bool m]) (.agg #[.int .i64 a, .bool m])).run Tryz.prog w with
  | ok b' w' => rw [hq] at h; simp at h; simp [h]
  | _ => rw [hq] at h; simp at h
set_option maxRecDepth 100000 in
set_option maxHeartbeats 2000000 in
theorem ychances_any (A B : Option Addr) (n c e : Nat) (l : List (Nat × Bool)) (w : World) (hA : Rd w 2 A (l.map encC)) (hB : Rd w 2 B (l.map encC)) (hl : l.length = n) (hn : n ≤ 4000000) :
    Calls Tryz.prog 87 #[.slice A n c, .slice B n e] w fun e w' => e = .returned (.bool true) ∧ Below w.heap.size w w' := by
  have Hl := Lib.hid hl
  have hg := guardC
  clear hl
  go_enter Tryz.func87, Tryz.ntmps87
  go_wp2
  go_loopw [5] (fun v wr => ∃ i k : Nat, v = .int .i64 i ∧ i ≤ n ∧ wr = w.drewN k) (fun v _ => n - (intOf v).toNat)
  case atStart => exact ⟨0, 0, rfl, by omega, rfl⟩
  case round =>
    obtain ⟨i, k, rfl, hi, rfl⟩ := hrel
    by_cases hlt : i < n
    · obtain ⟨⟨a, m⟩, Hx⟩ : ∃ x, Hid (l[i]? = some x) := ⟨_, Lib.hid (List.getElem?_eq_getElem (show i < l.length by have := Hl.out; omega))⟩
      obtain ⟨b, off, rfl, h1, h2⟩ := hA.atC Hx.out
      obtain ⟨b', off', rfl, k1, k2⟩ := hB.atC Hx.out
      simp only at h1 h2 k1 k2
      have hq := fun W => neqC (a : Nat) m W
      go_wp2_with fail
      go_quiet (fail)
      go_wp2
      go_roundw
      case rel => exact ⟨i + 1, _, by go_num, by omega, by first | rfl | exact World.drewN_drewN _ _ _⟩
      case measure => simp [intOf]; omega
    · go_wp2
      go_ret
      exact ⟨rfl, below_refl_drewN w k⟩

theorem live_chances : lChances gL ⟨#[97, 32, 98, 10, 99]⟩ = [(2, false), (4, true), (5, true)] := by kernel_rfl
theorem live_prev : prevGo 3 (lChances gL ⟨#[97, 32, 98]⟩) ((0, false), false) = ((2, false), true) := by kernel_rfl
theorem live_kind : kinP (lChances gL ⟨#[97, 32, 98]⟩) 2 = 1 := by kernel_rfl
theorem live_trail : trailP gL ⟨#[97, 98, 32, 10]⟩ = 2 := by kernel_rfl
set_option maxRecDepth 100000 in
set_option maxHeartbeats 4000000 in
theorem ylive_any (w : World) (hE : Env w) : Calls Tryz.prog 28 #[] w fun e w' => e = .returned (.bool true) ∧ Below w.heap.size w w' := by
  have H1 := Lib.hid (tChances_any ⟨#[97, 32, 98, 10, 99]⟩ w hE (by decide))
  have H2 := Lib.hid (fun W (h : Env W) => tPrev_any ⟨#[97, 32, 98]⟩ 3 W h (by decide))
  have H3 := Lib.hid (fun W (h : Env W) => tKind_any ⟨#[97, 32, 98]⟩ 2 W h (by decide))
  have H4 := Lib.hid (fun W (h : Env W) => tTrail_any ⟨#[97, 98, 32, 10]⟩ W h (by decide))
  rw [live_chances] at H1
  simp only [live_prev] at H2
  simp only [live_kind] at H3
  simp only [live_trail] at H4
  go_enter Tryz.func28, Tryz.ntmps28
  go_wp2_with fail
  refine H1.out.mono ?_
  rintro e w1 ⟨A, n, c, rfl, ho, hb1⟩
  obtain rfl : 3 = n := ho.len
  go_wp2_with fail
  refine (H2.out _ (hE.below hb1)).mono ?_
  rintro e w2 ⟨rfl, hb2⟩
  have hbb := below_two hb1 hb2
  have ho := ho.below hb2
  have hB := Blk.new w2 92 #[.int .i64 2, .bool false]
  have hb3 : Below w.heap.size w (w2.alloc (.cells #[.int .i64 2, .bool false] 92)) := hbb.alloc hbb.size _
  have ho := ho.alloc (.cells #[.int .i64 2, .bool false] 92)
  have d0 := hB.cell 0
  simp only [List.getElem?_toArray, List.getElem?_cons_zero] at d0
  have hb4 : Below w.heap.size w ((w2.alloc (.cells #[.int .i64 2, .bool false] 92)).alloc (.cells #[.int .i64 2, .bool false, .int .i64 4, .bool true, .int .i64 5, .bool true] 92)) := hb3.alloc hb3.size _
  have ho := ho.alloc (.cells #[.int .i64 2, .bool false, .int .i64 4, .bool true, .int .i64 5, .bool true] 92)
  have hr := Rd.many (w2.alloc (.cells #[.int .i64 2, .bool false] 92)) 92 2 ([((2 : Nat), false), (4, true), (5, true)].map encC) #[.int .i64 2, .bool false, .int .i64 4, .bool true, .int .i64 5, .bool true] rfl (by intro x hx; obtain ⟨y, _, rfl⟩ := List.mem_map.1 hx; rfl)
  rw [show (w2.alloc (.cells #[.int .i64 2, .bool false] 92)).heap.size = w2.heap.size + 1 by simp] at hr
  have HY := Lib.hid (ychances_any A (some ⟨w2.heap.size + 1, 0, none⟩) 3 c 3 [((2 : Nat), false), (4, true), (5, true)] _ (ho.rd (by decide)) hr rfl (by omega))
  have d0 := cell_keep d0 ((Below.refl _ _).alloc (Nat.le_refl _) (.cells #[.int .i64 2, .bool false, .int .i64 4, .bool true, .int .i64 5, .bool true] 92))
  clear H1 H2 hr ho hB hb3 hbb
  go_wp2_with fail
  refine HY.out.mono ?_
  rintro e w3 ⟨rfl, hb5⟩
  have d0 := cell_keep d0 hb5
  have hb6 := below_step hb4 hb5 hb4.size
  go_wp2_with fail
  refine (H3.out _ (hE.below hb6)).mono ?_
  rintro e w4 ⟨rfl, hb7⟩
  have d0 := cell_keep d0 hb7
  have hb8 := below_step hb6 hb7 hb6.size
  go_wp2_with fail
  refine (H4.out _ (hE.below hb8)).mono ?_
  rintro e w5 ⟨rfl, hb9⟩
  have d0 := cell_keep d0 hb9
  have hb10 := below_step hb8 hb9 hb8.size
  go_wp2
  go_ret
  exact ⟨rfl, hb10⟩
end Go.Proofs.YthlnfefpdmecaaaGreatDoor

/-
  PLAIN: lines: what a place is, by the cut ahead of its rune; blanks between two texts. No walk.
-/
namespace Go.Proofs.YthlnfefpdmecaaaGreatDoor

theorem kinP_none : ∀ {l : List (Nat × Bool)} {k : Nat}, (∀ b, (k, b) ∉ l) → kinP l (k : Int) = 0
  | [], _, _ => rfl
  | x :: r, k, h => by
    rw [kinP, if_neg, kinP_none fun b hb => h b (List.mem_cons_of_mem _ hb)]
    intro e
    have : x.1 = k := by have := beq_iff_eq.1 e; omega
    exact h x.2 (by rw [← this]; simp)
theorem kinP_mem : ∀ {l : List (Nat × Bool)} {k : Nat} {b : Bool}, (k, b) ∈ l → (∀ b', (k, b') ∈ l → b' = b) → kinP l (k : Int) = if b then 2 else 1
  | x :: r, k, b, h, hu => by
    rw [kinP]
    by_cases e : x.1 = k
    · have hx : x.2 = b := hu x.2 (by rw [← e]; simp)
      rw [if_pos (by rw [e]; simp), hx]
    · rw [if_neg (by rw [beq_iff_eq]; omega)]
      rcases List.mem_cons.1 h with h | h
      · exact absurd (by rw [← h]) e
      · exact kinP_mem h fun b' hb => hu b' (List.mem_cons_of_mem _ hb)
/-- What the place of a rune is that is not the first. -/
theorem kind_at {g : Int → Nat} {s : ByteArray} {k : Nat} {x : Nat × Nat × Nat} (hx : (runesP s)[k]? = some x) (hk : k ≠ 0) :
    kinP (lChances g s) (x.2.1 : Int) = if lCut (lCls g s) k = true then (if lMust ((lCls g s).getD (k - 1) 0) then 2 else 1) else 0 := by
  by_cases hc : lCut (lCls g s) k = true
  · rw [if_pos hc]
    exact kinP_mem ((lChances_at hx _).2 ⟨hk, hc, rfl⟩) fun b' hb => ((lChances_at hx b').1 hb).2.2
  · rw [if_neg hc]
    exact kinP_none fun b hb => hc ((lChances_at hx b).1 hb).2.1

/-- Blanks behind a text. -/
def sp (s : ByteArray) (j : Nat) : ByteArray := bytesOf (s.data.toList ++ List.replicate j 32)
theorem sp_zero (s : ByteArray) : sp s 0 = s := by unfold sp; rw [List.replicate_zero, List.append_nil]; exact bytesOf_data s
theorem sp_data (s : ByteArray) (j : Nat) : (sp s j).data.toList = s.data.toList ++ List.replicate j 32 := bytesOf_list _
theorem sp_size (s : ByteArray) (j : Nat) : (sp s j).size = s.size + j := by rw [← size_data, sp_data, List.length_append, List.length_replicate, size_data]
theorem sp_succ (s : ByteArray) (j : Nat) : sp s j ++ ⟨#[32]⟩ = sp s (j + 1) := by
  rw [← bytesOf_data (sp s j ++ ⟨#[32]⟩), ← bytesOf_data (sp s (j + 1))]
  congr 1
  rw [sp_data, ByteArray.data_append, Array.toList_append, sp_data, List.replicate_succ', List.append_assoc]
theorem runes_sp (s : ByteArray) : ∀ j, runesP (sp s j) = runesP s ++ (List.range j).map fun i => (32, s.size + i, s.size + i + 1)
  | 0 => by rw [sp_zero]; simp
  | j + 1 => by
    have := runes_join (sp s j) ⟨#[]⟩ 32 (by decide) (u := sp s (j + 1)) (by rw [sp_data, sp_data, List.replicate_succ', List.append_assoc])
    rw [this, runes_sp s j, sp_size, List.range_succ, List.map_append, List.append_assoc]
    rfl
theorem runes_spt (s t : ByteArray) {n : Nat} (hn : 1 ≤ n) {u : ByteArray} (hu : u.data.toList = (sp s n).data.toList ++ t.data.toList) :
    runesP u = runesP s ++ (List.range n).map (fun i => (32, s.size + i, s.size + i + 1)) ++ (runesP t).map (shR (s.size + n)) := by
  obtain ⟨j, rfl⟩ : ∃ j, n = j + 1 := ⟨n - 1, by omega⟩
  have := runes_join (sp s j) t 32 (by decide) (u := u) (by rw [hu, sp_data, sp_data, List.replicate_succ', ← List.append_assoc, List.append_assoc]; rfl)
  rw [this, runes_sp s j, sp_size, List.range_succ, List.map_append]
  simp [Nat.add_assoc]
section
variable {s t u : ByteArray} {n : Nat} {x y : Nat × Nat × Nat}
theorem gL_blank : gL 32 = 4 := by kernel_rfl
theorem blank_cls (hn : 1 ≤ n) (hu : u.data.toList = (sp s n).data.toList ++ t.data.toList) : lCls gL u = lCls gL s ++ List.replicate n 4 ++ lCls gL t := by
  unfold lCls
  rw [runes_spt s t hn hu, List.map_append, List.map_append, List.map_map, List.map_map]
  congr 1
  congr 1
  rw [show ((fun x : Nat × Nat × Nat => ((gL (x.1 : Int) : Nat) : Int)) ∘ fun i => (32, s.size + i, s.size + i + 1)) = fun _ : Nat => (4 : Int) from funext fun _ => by show ((gL 32 : Nat) : Int) = 4; rw [gL_blank]; rfl]
  rw [List.map_const', List.length_range]
theorem blank_facts (hn : 1 ≤ n) (hu : u.data.toList = (sp s n).data.toList ++ t.data.toList) (hx : (runesP s)[(runesP s).length - 1]? = some x) (hy : (runesP t)[0]? = some y) (gx : gL (x.1 : Int) = 0) (gy : gL (y.1 : Int) = 0) :
    ∃ m, (runesP s).length = m + 1 ∧ (lCls gL u).getD m 0 = 0 ∧ (∀ j, j < n → (lCls gL u).getD (m + 1 + j) 0 = 4) ∧ (lCls gL u).getD (m + 1 + n) 0 = 0 := by
  have hl : 0 < (runesP s).length := by have := (List.getElem?_eq_some_iff.1 hx).1; omega
  obtain ⟨m, hm⟩ : ∃ m, (runesP s).length = m + 1 := ⟨(runesP s).length - 1, by omega⟩
  have hlen : (lCls gL s).length = m + 1 := by rw [lCls_len, hm]
  refine ⟨m, hm, ?_, fun j hj => ?_, ?_⟩
  · rw [blank_cls hn hu, List.append_assoc, List.getD_eq_getElem?_getD, List.getElem?_append_left (by omega)]
    unfold lCls
    rw [hm, Nat.add_sub_cancel] at hx
    rw [List.getElem?_map, hx]
    simp [gx]
  · rw [blank_cls hn hu, List.append_assoc, List.getD_eq_getElem?_getD, List.getElem?_append_right (by omega), List.getElem?_append_left (by simp; omega), hlen]
    rw [show m + 1 + j - (m + 1) = j by omega, List.getElem?_replicate, if_pos hj]; rfl
  · rw [blank_cls hn hu, List.getD_eq_getElem?_getD, List.getElem?_append_right (by simp; omega)]
    have h0 : (lCls gL s ++ List.replicate n (4 : Int)).length = m + 1 + n := by rw [List.length_append, List.length_replicate, hlen]
    rw [h0, Nat.sub_self]
    unfold lCls
    rw [List.getElem?_map, hy]
    simp [gy]
theorem blank_in (hn : 1 ≤ n) (hu : u.data.toList = (sp s n).data.toList ++ t.data.toList) (hx : (runesP s)[(runesP s).length - 1]? = some x) (hy : (runesP t)[0]? = some y) (gx : gL (x.1 : Int) = 0) (gy : gL (y.1 : Int) = 0) {i : Nat} (hi : i < n) :
    kinP (lChances gL u) ((s.size : Int) + (i : Int)) = 0 := by
  obtain ⟨m, hm, h0, hb, _⟩ := blank_facts hn hu hx hy gx gy
  have hr : (runesP u)[m + 1 + i]? = some (32, s.size + i, s.size + i + 1) := by
    rw [runes_spt s t hn hu, List.append_assoc, List.getElem?_append_right (by omega), List.getElem?_append_left (by simp; omega), hm]
    rw [show m + 1 + i - (m + 1) = i by omega, List.getElem?_map, List.getElem?_range hi]; rfl
  have := kind_at (g := gL) hr (by omega)
  rw [lBlank_in h0 hb hi, if_neg (by simp)] at this
  simpa using this
theorem blank_end (hn : 1 ≤ n) (hu : u.data.toList = (sp s n).data.toList ++ t.data.toList) (hx : (runesP s)[(runesP s).length - 1]? = some x) (hy : (runesP t)[0]? = some y) (gx : gL (x.1 : Int) = 0) (gy : gL (y.1 : Int) = 0) :
    kinP (lChances gL u) ((s.size + n : Nat) : Int) = 1 := by
  obtain ⟨m, hm, h0, hb, hq⟩ := blank_facts hn hu hx hy gx gy
  have hy0 : y.2.1 = 0 := by
    have hc := runesP_contig t
    cases hr : runesP t with
    | nil => rw [hr] at hy; cases hy
    | cons z r =>
      rw [hr] at hy hc
      simp at hy
      subst hy
      cases r with
      | nil => exact hc.1
      | cons z2 r2 => exact hc.1
  have hr : (runesP u)[m + 1 + n]? = some (shR (s.size + n) y) := by
    rw [runes_spt s t hn hu, List.getElem?_append_right (by simp; omega)]
    have h0 : (runesP s ++ (List.range n).map (fun i => (32, s.size + i, s.size + i + 1))).length = m + 1 + n := by rw [List.length_append, List.length_map, List.length_range, hm]
    rw [h0, Nat.sub_self, List.getElem?_map, hy]; rfl
  have := kind_at (g := gL) hr (by omega)
  obtain ⟨h1, h2⟩ := lBlank_end h0 hb hn hq
  rw [h1, h2, if_pos rfl] at this
  unfold shR at this
  simp only [hy0] at this
  simpa using this
end
end Go.Proofs.YthlnfefpdmecaaaGreatDoor

/-
  LineNever: plain; kerflaw14.among, walked.
-/
namespace Go.Proofs.YthlnfefpdmecaaaGreatDoor
open Go.RowKit

theorem names_inj : ∀ k : Nat, k < 26 → ∀ m : Nat, m < 26 → linesD.names[k]? = linesD.names[m]? → k = m := by decide
theorem nm_at (r : Int) : linesD.names[gL r]? = some (nmL r) := by
  have hlt : gL r < linesD.names.length := by rw [names_len]; exact gL_lt _
  unfold nmL
  rw [List.getElem?_eq_getElem hlt]; rfl
/-- Is a class's name this one? -/
theorem nmS (r : Int) {m : Nat} {l : List UInt8} (h : linesD.names[m]? = some l) : ((bytesOf (nmL r)).toList == l) = (((gL r : Nat) : Int) == (m : Int)) := by
  rw [ByteArray.toList_eq, bytesOf_list]
  have h1 := nm_at r
  by_cases e : gL r = m
  · subst e
    rw [h] at h1
    injection h1 with h1
    rw [h1]; simp
  · have h2 : (((gL r : Nat) : Int) == (m : Int)) = false := by rw [beq_eq_false_iff_ne]; omega
    rw [h2, beq_eq_false_iff_ne]
    intro e2
    rw [e2] at h1
    have hm : m < 26 := by rw [← names_len]; exact (List.getElem?_eq_some_iff.1 h).1
    exact e (names_inj _ (gL_lt r) m hm (by rw [h1, h]))
theorem amongS1 (r : Int) : [[83, 112], [90, 119], [66, 107], [67, 114], [76, 102]].contains (nmL r) = [4, 5, 1, 2, 3].contains ((gL r : Nat) : Int) := by
  have : ∀ k : Nat, k < 26 → ∀ nm ∈ linesD.names[k]?, [[83, 112], [90, 119], [66, 107], [67, 114], [76, 102]].contains nm = [4, 5, 1, 2, 3].contains (k : Int) := by decide
  exact this _ (gL_lt r) _ (nm_at r)
theorem amongS2 (r : Int) : [[87, 106], [67, 108], [67, 112], [69, 120], [73, 115], [83, 121]].contains (nmL r) = [6, 11, 10, 13, 14, 15].contains ((gL r : Nat) : Int) := by
  have : ∀ k : Nat, k < 26 → ∀ nm ∈ linesD.names[k]?, [[87, 106], [67, 108], [67, 112], [69, 120], [73, 115], [83, 121]].contains nm = [6, 11, 10, 13, 14, 15].contains (k : Int) := by decide
  exact this _ (gL_lt r) _ (nm_at r)
theorem amongS4 (r : Int) : [[79, 116, 104, 101, 114], [78, 117], [71, 108], [87, 106]].contains (nmL r) = [0, 20, 7, 6].contains ((gL r : Nat) : Int) := by
  have : ∀ k : Nat, k < 26 → ∀ nm ∈ linesD.names[k]?, [[79, 116, 104, 101, 114], [78, 117], [71, 108], [87, 106]].contains nm = [0, 20, 7, 6].contains (k : Int) := by decide
  exact this _ (gL_lt r) _ (nm_at r)
theorem amongS5 (r : Int) : [[79, 116, 104, 101, 114], [78, 117]].contains (nmL r) = [0, 20].contains ((gL r : Nat) : Int) := by
  have : ∀ k : Nat, k < 26 → ∀ nm ∈ linesD.names[k]?, [[79, 116, 104, 101, 114], [78, 117]].contains nm = [0, 20].contains (k : Int) := by decide
  exact this _ (gL_lt r) _ (nm_at r)

/-- Must a line end behind a, ahead of b? -/
def endsL (a b : Int) : Bool := (a == 1 || a == 3) || (a == 2 && b != 3)
def kcP (c : List Int) (i : Nat) : Int := if lCut c i = true then (if lMust (c.getD (i - 1) 0) then 2 else 1) else 0
section
variable {c : List Int} {j : Nat}
theorem must_false {a : Int} (h : ¬ (a = 1 ∨ a = 2 ∨ a = 3)) : lMust a = false := by
  cases hq : lMust a with
  | false => rfl
  | true => exact absurd ((lMust_iff a).1 hq) h
theorem kc_end : endsL (c.getD j 0) (c.getD (j + 1) 0) = (kcP c (j + 1) == 2) := by
  unfold kcP endsL
  rw [Nat.add_sub_cancel]
  generalize hp : c.getD j 0 = p
  generalize hq : c.getD (j + 1) 0 = q
  by_cases hm : p = 1 ∨ p = 2 ∨ p = 3
  · have hm' : lMust p = true := (lMust_iff p).2 hm
    have := lCut_end (c := c) (i := j) (by rw [hp]; exact hm')
    rw [this, hp, hq, hm']
    rcases hm with rfl | rfl | rfl
    · simp
    · by_cases h3 : q = 3
      · subst h3; simp
      · simp [h3]
    · simp
  · rw [must_false hm]
    have h1 : p ≠ 1 := fun h => hm (.inl h)
    have h2 : p ≠ 2 := fun h => hm (.inr (.inl h))
    have h3 : p ≠ 3 := fun h => hm (.inr (.inr h))
    split <;> simp [h1, h2, h3]
theorem kc_zero (h : lCut c (j + 1) = false) : kcP c (j + 1) = 0 := by unfold kcP; rw [h]; rfl
theorem end_cases (h : endsL (c.getD j 0) (c.getD (j + 1) 0) = false) : lMust (c.getD j 0) = false ∨ kcP c (j + 1) = 0 := by
  cases hm : lMust (c.getD j 0) with
  | false => exact .inl rfl
  | true =>
    refine .inr (kc_zero ?_)
    rw [lCut_end hm]
    unfold endsL at h
    simp only [Bool.or_eq_false_iff, Bool.and_eq_false_iff, beq_eq_false_iff_ne, bne_eq_false_iff_eq] at h
    have := (lMust_iff _).1 hm
    rw [decide_eq_true (by omega)]; rfl
theorem kc_1 (h : endsL (c.getD j 0) (c.getD (j + 1) 0) = false) (hq : [4, 5, 1, 2, 3].contains (c.getD (j + 1) 0) = true) : kcP c (j + 1) = 0 := by
  rcases end_cases h with hm | hm
  · refine kc_zero (lCut_blank hm ?_)
    simp at hq ⊢
    omega
  · exact hm
theorem kc_2 (h : endsL (c.getD j 0) (c.getD (j + 1) 0) = false) (hq : [6, 11, 10, 13, 14, 15].contains (c.getD (j + 1) 0) = true) (hz : lZw c (j + 1) = false) : kcP c (j + 1) = 0 := by
  rcases end_cases h with hm | hm
  · refine kc_zero (lNever_close hm hz ?_)
    simpa using hq
  · exact hm
theorem kc_3 (hp : c.getD j 0 = 7 ∨ c.getD j 0 = 6) : kcP c (j + 1) = 0 := kc_zero (lNever_glue hp)
theorem kc_4 (hp : c.getD j 0 = 0) (hq : [0, 20, 7, 6].contains (c.getD (j + 1) 0) = true) : kcP c (j + 1) = 0 :=
  kc_zero (lNever_letters (.inl ⟨hp, by simpa using hq⟩))
theorem kc_5 (hp : c.getD j 0 = 20) (hq : [0, 20].contains (c.getD (j + 1) 0) = true) : kcP c (j + 1) = 0 :=
  kc_zero (lNever_letters (.inr ⟨hp, by simpa using hq⟩))
end

theorem Rd.litsS (W : World) (t : TypeId) (xs : List (List UInt8)) : Rd (W.alloc (.cells (xs.map fun l => Value.string (bytesOf l)).toArray t)) 1 (some ⟨W.heap.size, 0, none⟩) (xs.map encNm) :=
  Rd.many W t 1 (xs.map encNm) _ (by congr 1; induction xs with | nil => rfl | cons a r ih => simp [encNm, ih]) (by intro x hx; obtain ⟨y, _, rfl⟩ := List.mem_map.1 hx; rfl)
theorem Rd.atNm {w : World} {A : Option Addr} {l : List (List UInt8)} {k : Nat} {x : List UInt8} (h : Rd w 1 A (l.map encNm)) (hk : l[k]? = some x) : ∃ b off, A = some ⟨b, off, none⟩ ∧ w.cell? ⟨b, off + k, none⟩ = some (.string (bytesOf x)) := by
  obtain ⟨b, off, rfl, hc⟩ := h (by intro e; cases l with | nil => simp at hk | cons _ _ => simp at e)
  have h0 := hc k 0 (encNm x) (.string (bytesOf x)) (by simp [hk]) rfl
  exact ⟨b, off, rfl, by simpa using h0⟩
set_option maxRecDepth 100000 in
set_option maxHeartbeats 2000000 in
theorem yamong_any (A : Option Addr) (n c : Nat) (xs : List (List UInt8)) (nm : List UInt8) (w : World) (hA : Rd w 1 A (xs.map encNm)) (hl : xs.length = n) (hn : n ≤ 100) :
    Calls Tryz.prog 32 #[.string (bytesOf nm), .slice A n c] w fun e w' => e = .returned (.bool (xs.contains nm)) ∧ w = w' := by
  have Hl := Lib.hid hl
  clear hl
  obtain ⟨r, Hr⟩ : ∃ r, Hid (xs.contains nm = r) := ⟨_, Lib.hid rfl⟩
  rw [Hr.out]
  go_enter Tryz.func32, Tryz.ntmps32
  go_wp2
  go_loopw [5] (fun v wr => ∃ j : Nat, v = .int .i64 j ∧ j ≤ n ∧ Hid ((xs.drop j).contains nm = r) ∧ wr = w) (fun v _ => n - (intOf v).toNat)
  case atStart => exact ⟨0, rfl, by omega, Lib.hid Hr.out, rfl⟩
  case round =>
    obtain ⟨j, rfl, hj, HN, rfl⟩ := hrel
    by_cases hlt : j < n
    · obtain ⟨y, Hy⟩ : ∃ y, Hid (xs[j]? = some y) := ⟨_, Lib.hid (List.getElem?_eq_getElem (by have := Hl.out; omega))⟩
      obtain ⟨b, off, rfl, hc⟩ := hA.atNm Hy.out
      have HD := Lib.hid (drop_of Hy.out)
      have HE := Lib.hid (show (bytesOf y).toList = y by rw [ByteArray.toList_eq, bytesOf_list])
      have HE2 := Lib.hid (show (bytesOf nm).toList = nm by rw [ByteArray.toList_eq, bytesOf_list])
      by_cases hq : bytesOf y = bytesOf nm
      · have hyn : y = nm := by rw [← HE.out, ← HE2.out, hq]
        have HV : Hid (r = true) := Lib.hid (by rw [← HN.out, HD.out, hyn]; simp)
        rw [hq] at hc
        clear hq hyn
        go_wp2
        go_ret
        exact ⟨by rw [HV.out]; rfl, rfl⟩
      · have hyn : y ≠ nm := fun e => hq (by rw [e])
        have HN' : Hid ((xs.drop (j + 1)).contains nm = r) := Lib.hid (by rw [← HN.out, HD.out, List.contains_cons, beq_eq_false_iff_ne.2 (Ne.symm hyn), Bool.false_or])
        have hq1 : ((bytesOf y).toList == (bytesOf nm).toList) = false := by rw [HE.out, HE2.out]; exact beq_eq_false_iff_ne.2 hyn
        clear hyn
        go_wp2
        go_roundw
        case rel => exact ⟨j + 1, by go_num, by omega, HN', trivial⟩
        case measure => simp [intOf]; omega
    · have HV : Hid (r = false) := Lib.hid (by rw [← HN.out, List.drop_eq_nil_of_le (by have := Hl.out; omega)]; rfl)
      go_wp2
      go_ret
      exact ⟨by rw [HV.out]; rfl, rfl⟩
theorem yamong_b (nm : List UInt8) (xs : List (List UInt8)) (n : Nat) (W : World) (arr : Array Value) (harr : arr = (xs.map fun l => Value.string (bytesOf l)).toArray) (hn : xs.length = n) (hz : n ≤ 10) :
    Calls Tryz.prog 32 #[.string (bytesOf nm), .slice (some ⟨W.heap.size, 0, none⟩) n n] (W.alloc (.cells arr 9)) fun e w' => e = .returned (.bool (xs.contains nm)) ∧ Below W.heap.size W w' := by
  subst harr
  exact (yamong_any (some ⟨W.heap.size, 0, none⟩) n n xs nm _ (Rd.litsS W 9 xs) hn (by omega)).mono (by rintro e w' ⟨h1, h2⟩; exact ⟨h1, by rw [← h2]; exact (Below.refl _ _).alloc (Nat.le_refl _) _⟩)
end Go.Proofs.YthlnfefpdmecaaaGreatDoor

/-
  kerflaw14.LineNever, walked. Printed by gen_never.py.
-/
namespace Go.Proofs.YthlnfefpdmecaaaGreatDoor
open Go.RowKit

theorem zw_first (c : List Int) : lZw c 0 = false := rfl
set_option maxRecDepth 100000 in
set_option maxHeartbeats 40000000 in
theorem yLineNever_any (s : ByteArray) (w : World) (hE : Env w) (_hs : s.size ≤ maxLen) :
    Calls Tryz.prog 7 #[.string s] w fun e w' => e = .returned (.bool true) ∧ Below w.heap.size w w' := by
  by_cases hl : 60 < s.size
  · have HL := Lib.hid (ylive_any w hE)
    have hl2 : (60 : Int) < (s.size : Int) := by omega
    clear hl
    go_enter Tryz.func7, Tryz.ntmps7
    go_wp2_with fail
    refine HL.out.mono ?_
    rintro e w1 ⟨rfl, hb⟩
    go_wp2
    go_ret
    exact ⟨rfl, hb⟩
  have hl2 : ¬ (60 : Int) < (s.size : Int) := by omega
  have HLv := Lib.hid (fun W (h : Env W) => ylive_any W h)
  have HK := Lib.hid (fun (k : Int) W (h : Env W) => tKind_any s k W h (by omega))
  have H1 := Lib.hid (xDb_any w)
  have H2 := Lib.hid (fun W => sRunes_any s W (by omega))
  obtain ⟨X, HX⟩ : ∃ L, Hid (runesP s = L) := ⟨_, Lib.hid rfl⟩
  obtain ⟨C, HC⟩ : ∃ L, Hid (lCls gL s = L) := ⟨_, Lib.hid rfl⟩
  have hXz : X.length ≤ 60 := by rw [← HX.out]; exact Nat.le_trans (runesP_len s) (by omega)
  have hz0 := Lib.hid (zw_first C)
  clear hl
  go_enter Tryz.func7, Tryz.ntmps7
  go_wp2_with fail
  refine H1.out.mono ?_
  rintro e w1 ⟨p, x, rfl, hd, hb1⟩
  go_wp2_with fail
  refine (H2.out w1).mono ?_
  rw [HX.out]
  rintro e w2 ⟨A, nx, cx, rfl, ho, hb2⟩
  have hnx : X.length = nx := by have := ho.len; simpa using this
  have Hn := Lib.hid hnx
  have hnz : nx ≤ 60 := by omega
  have rd := ho.rd (by decide)
  have hb3 := below_two hb1 hb2
  have HD := Lib.hid (hd.below hb2)
  have HNm := Lib.hid (fun (r : Int) W (h : Below w2.heap.size w2 W) => xNamed_any w.heap.size p x r W (HD.out.below h))
  have hE2 := Lib.hid (hE.below hb3)
  have hsz3 := hb3.size
  clear H1 H2 hd ho hb1 hb2 hE hnx
  go_wp2_with fail
  go_loopw [5, 6] (fun v u wr => ∃ (i : Nat) (z : Bool), v = .bool z ∧ u = .int .i64 i ∧ 1 ≤ i ∧ i ≤ nx + 1 ∧ Hid (lZw C (i - 1) = z) ∧ Below w2.heap.size w2 wr) (fun _ u _ => nx - (intOf u).toNat)
  case atStart => exact ⟨1, false, rfl, rfl, by omega, by omega, hz0, Below.refl _ _⟩
  case round =>
    obtain ⟨i, z, rfl, rfl, h1i, hi, HZ, hb⟩ := hrel
    by_cases hlt : i < nx
    · obtain ⟨j, hj⟩ : ∃ j, i - 1 = j := ⟨_, rfl⟩
      have hij : i = j + 1 := by omega
      have e1 : (i : Int) - 1 = (j : Int) := by omega
      obtain ⟨⟨r1, a1, b1⟩, Hx1⟩ : ∃ x, Hid (X[j]? = some x) := ⟨_, Lib.hid (List.getElem?_eq_getElem (by have := Hn.out; omega))⟩
      obtain ⟨⟨r2, a2, b2⟩, Hx2⟩ : ∃ x, Hid (X[i]? = some x) := ⟨_, Lib.hid (List.getElem?_eq_getElem (by have := Hn.out; omega))⟩
      obtain ⟨bk, off, rfl, c0, c1, c2⟩ := rd.atRn Hx1.out
      obtain ⟨bk', off', eB, d0, d1, d2⟩ := rd.atRn Hx2.out
      obtain ⟨rfl, rfl⟩ : bk = bk' ∧ off = off' := by injection eB with e; injection e with e1 e2; exact ⟨e1, e2⟩
      simp only at c0 d0 d1
      replace c0 := cell_keep c0 hb
      replace d0 := cell_keep d0 hb
      replace d1 := cell_keep d1 hb
      have hca : C.getD j 0 = ((gL (r1 : Int) : Nat) : Int) := by
        rw [← HC.out]; unfold lCls
        rw [List.getD_eq_getElem?_getD, List.getElem?_map, HX.out, Hx1.out]; rfl
      have hcb : C.getD (j + 1) 0 = ((gL (r2 : Int) : Nat) : Int) := by
        rw [← HC.out]; unfold lCls
        rw [List.getD_eq_getElem?_getD, List.getElem?_map, HX.out, ← hij, Hx2.out]; rfl
      have HKC : Hid (kinP (lChances gL s) (a2 : Int) = kcP C (j + 1)) := Lib.hid (by
        have := kind_at (g := gL) (s := s) (k := j + 1) (x := (r2, a2, b2)) (by rw [HX.out, ← hij]; exact Hx2.out) (by omega)
        rw [HC.out] at this
        exact this)
      obtain ⟨kk, Hkk⟩ : ∃ kk, Hid (kcP C (j + 1) = kk) := ⟨_, Lib.hid rfl⟩
      obtain ⟨na, Hna⟩ : ∃ nm, Hid (nmL (r1 : Int) = nm) := ⟨_, Lib.hid rfl⟩
      obtain ⟨nb, Hnb⟩ : ∃ nm, Hid (nmL (r2 : Int) = nm) := ⟨_, Lib.hid rfl⟩
      have HEnd : Hid (endsL ((gL (r1 : Int) : Nat) : Int) ((gL (r2 : Int) : Nat) : Int) = (kk == 2)) := Lib.hid (by rw [← hca, ← hcb, ← Hkk.out]; exact kc_end)
      have F1 : Hid (endsL ((gL (r1 : Int) : Nat) : Int) ((gL (r2 : Int) : Nat) : Int) = false → [[83, 112], [90, 119], [66, 107], [67, 114], [76, 102]].contains nb = true → kk = 0) := Lib.hid (fun h1 h2 => by
        rw [← Hkk.out]; rw [← Hnb.out, amongS1] at h2; rw [← hca, ← hcb] at h1; rw [← hcb] at h2; exact kc_1 h1 h2)
      have F2 : Hid (endsL ((gL (r1 : Int) : Nat) : Int) ((gL (r2 : Int) : Nat) : Int) = false → [[87, 106], [67, 108], [67, 112], [69, 120], [73, 115], [83, 121]].contains nb = true → lZw C (j + 1) = false → kk = 0) := Lib.hid (fun h1 h2 h3 => by
        rw [← Hkk.out]; rw [← Hnb.out, amongS2] at h2; rw [← hca, ← hcb] at h1; rw [← hcb] at h2; exact kc_2 h1 h2 h3)
      have F3 : Hid (gL (r1 : Int) = 7 ∨ gL (r1 : Int) = 6 → kk = 0) := Lib.hid (fun h => by rw [← Hkk.out]; exact kc_3 (by rw [hca]; omega))
      have F4 : Hid (gL (r1 : Int) = 0 → [[79, 116, 104, 101, 114], [78, 117], [71, 108], [87, 106]].contains nb = true → kk = 0) := Lib.hid (fun h h2 => by
        rw [← Hkk.out]; rw [← Hnb.out, amongS4, ← hcb] at h2; exact kc_4 (by rw [hca, h]; rfl) h2)
      have F5 : Hid (gL (r1 : Int) = 20 → [[79, 116, 104, 101, 114], [78, 117]].contains nb = true → kk = 0) := Lib.hid (fun h h2 => by
        rw [← Hkk.out]; rw [← Hnb.out, amongS5, ← hcb] at h2; exact kc_5 (by rw [hca, h]; rfl) h2)
      have HZs : Hid (lZw C (j + 1) = if gL (r1 : Int) = 5 then true else if gL (r1 : Int) ≠ 4 then false else z) := Lib.hid (by
        rw [lZw_step, hca, ← HZ.out, hj]
        by_cases h5 : gL (r1 : Int) = 5
        · rw [if_pos (by omega), if_pos h5]
        · rw [if_neg (by omega), if_neg h5]
          by_cases h4 : gL (r1 : Int) ≠ 4
          · rw [if_pos (by omega), if_pos h4]
          · rw [if_neg (by omega), if_neg h4])
      have HSA := Lib.hid (fun (m : Nat) (l : List UInt8) (h : linesD.names[m]? = some l) => show ((bytesOf na).toList == l) = (((gL (r1 : Int) : Nat) : Int) == (m : Int)) by rw [← Hna.out]; exact nmS _ h)
      have HSB := Lib.hid (fun (m : Nat) (l : List UInt8) (h : linesD.names[m]? = some l) => show ((bytesOf nb).toList == l) = (((gL (r2 : Int) : Nat) : Int) == (m : Int)) by rw [← Hnb.out]; exact nmS _ h)
      have HKd := Lib.hid (fun W (h : Below w2.heap.size w2 W) => HK.out (a2 : Int) W (hE2.out.below h))
      rw [HKC.out, Hkk.out] at HKd
      have Hk3 : Hid (kk = 0 ∨ kk = 1 ∨ kk = 2) := Lib.hid (by
        rw [← Hkk.out]; unfold kcP
        split
        · split
          · exact .inr (.inr rfl)
          · exact .inr (.inl rfl)
        · exact .inl rfl)
      have HJ : Hid (i + 1 - 1 = j + 1) := Lib.hid (by omega)
      have q1 : (j : Int) < (nx : Int) := by omega
      have q2 : (0 : Int) ≤ (j : Int) := by omega
      have q3 : (i : Int) < (nx : Int) := by omega
      have q4 : IntKind.i64.wrap ((i : Int) - 1) = (i : Int) - 1 := IntWalk.i64_in _ (by omega)
      have q5 : IntKind.i64.wrap (j : Int) = (j : Int) := IntWalk.i64_in _ (by omega)
      have q6 : j < nx := by omega
      clear hj hij hca hcb HKC Hkk c1 c2 d2 eB HZ Hx1 Hx2
      go_upto_region 9 with fail
      have HST := Lib.hid (fun (V : World) (h : Below wr.heap.size wr V) => And.intro (cell_keep c0 h) (And.intro (cell_keep d0 h) (And.intro (cell_keep d1 h) h)))
      have HBw := Lib.hid (fun (V : World) (h : Below wr.heap.size wr V) => below_two hb h)
      go_cut [7, 8] (fun va vb wx => va = .string (bytesOf na) ∧ vb = .string (bytesOf nb) ∧ wx.cell? ⟨bk, off + i * 3 + 1, none⟩ = some (.int .i64 (a2 : Nat)) ∧ Below wr.heap.size wr wx)
      case first =>
        go_region_held3 (fun V => V.cell? ⟨bk, off + j * 3, none⟩ = some (.int .i32 (r1 : Nat)) ∧ V.cell? ⟨bk, off + i * 3, none⟩ = some (.int .i32 (r2 : Nat)) ∧ V.cell? ⟨bk, off + i * 3 + 1, none⟩ = some (.int .i64 (a2 : Nat)) ∧ Below wr.heap.size wr V)
          (first | exact HST.out _ Ba | exact HST.out _ (Below.refl _ _) | exact HST.out _ (below_drewN (Below.refl _ _) 1))
          (first
            | (go_at_call 30; go_split_ands; refine (HNm.out _ _ (HBw.out _ (by assumption))).mono ?_; rintro e wa ⟨rfl, hz⟩; have Ba := below_two (by assumption) hz))
        all_goals
          go_wp2_with fail
          go_meet
          exact ⟨by rw [Hna.out], by rw [Hnb.out], (HST.out _ Ba).2.2.1, Ba⟩
      case rest =>
        clear c0 d0 d1 HST
        obtain ⟨rfl, rfl, d1, hbx⟩ := hcut
        have hbc := below_two hb hbx
        clear hbx HNm
        obtain ⟨zb, Hzb⟩ : ∃ zb, Hid (lZw C (j + 1) = zb) := ⟨_, Lib.hid rfl⟩
        rw [Hzb.out] at HZs
        have HZ2 := Lib.hid (show lZw C (i + 1 - 1) = zb by rw [HJ.out]; exact Hzb.out)
        go_upto_if 40 with fail
        go_cut [5] (fun vz wx => vz = .bool zb ∧ wx.cell? ⟨bk, off + i * 3 + 1, none⟩ = some (.int .i64 (a2 : Nat)) ∧ Below w2.heap.size w2 wx)
        case first =>
          by_cases h5 : gL (r1 : Int) = 5
          · have hz := HZs.out
            rw [if_pos h5] at hz
            have sna5 : ((bytesOf na).toList == [90, 119]) = true := by rw [HSA.out 5 [90, 119] rfl, h5]; rfl
            clear HZs Hzb HZ2
            subst hz
            rw [sna5]
            go_wp2_with fail
            go_meet
            exact ⟨rfl, d1, hbc⟩
          by_cases h4 : gL (r1 : Int) = 4
          · have hz := HZs.out
            rw [if_neg (by omega), if_neg (by omega)] at hz
            have sna5 : ((bytesOf na).toList == [90, 119]) = false := by rw [HSA.out 5 [90, 119] rfl, beq_eq_false_iff_ne]; omega
            have sna4 : ((bytesOf na).toList == [83, 112]) = true := by rw [HSA.out 4 [83, 112] rfl, h4]; rfl
            clear HZs Hzb HZ2
            subst hz
            rw [sna5]
            go_wp2_with fail
            go_meet
            exact ⟨rfl, d1, hbc⟩
          · have hz := HZs.out
            rw [if_neg (by omega), if_pos (by omega)] at hz
            have sna5 : ((bytesOf na).toList == [90, 119]) = false := by rw [HSA.out 5 [90, 119] rfl, beq_eq_false_iff_ne]; omega
            have sna4 : ((bytesOf na).toList == [83, 112]) = false := by rw [HSA.out 4 [83, 112] rfl, beq_eq_false_iff_ne]; omega
            clear HZs Hzb HZ2
            subst hz
            rw [sna5]
            go_wp2_with fail
            go_meet
            exact ⟨rfl, d1, hbc⟩
        case rest =>
          clear d1 hbc HZs
          obtain ⟨rfl, d1, hbc⟩ := hcut
          go_wp2_with fail
          refine (HKd.out _ hbc).mono ?_
          rintro e wn ⟨rfl, hz⟩
          replace hbc := below_two hbc hz
          clear hz d1
          go_upto_region 15 with fail
          go_cut [10] (fun ve wx => ve = .bool (kk == 2) ∧ Below w2.heap.size w2 wx)
          case first =>
            by_cases h1 : gL (r1 : Int) = 1
            · have sna1 : ((bytesOf na).toList == [66, 107]) = true := by rw [HSA.out 1 [66, 107] rfl, h1]; rfl
              have hq : (kk == 2) = true := by rw [← HEnd.out, h1]; rfl
              clear HEnd
              go_wp2_with fail
              go_meet
              exact ⟨by rw [hq], hbc⟩
            by_cases h3 : gL (r1 : Int) = 3
            · have sna1 : ((bytesOf na).toList == [66, 107]) = false := by rw [HSA.out 1 [66, 107] rfl, beq_eq_false_iff_ne]; omega
              have sna3 : ((bytesOf na).toList == [76, 102]) = true := by rw [HSA.out 3 [76, 102] rfl, h3]; rfl
              have hq : (kk == 2) = true := by rw [← HEnd.out, h3]; rfl
              clear HEnd
              go_wp2_with fail
              go_meet
              exact ⟨by rw [hq], hbc⟩
            by_cases h2 : gL (r1 : Int) = 2
            · have sna1 : ((bytesOf na).toList == [66, 107]) = false := by rw [HSA.out 1 [66, 107] rfl, beq_eq_false_iff_ne]; omega
              have sna3 : ((bytesOf na).toList == [76, 102]) = false := by rw [HSA.out 3 [76, 102] rfl, beq_eq_false_iff_ne]; omega
              have sna2 : ((bytesOf na).toList == [67, 114]) = true := by rw [HSA.out 2 [67, 114] rfl, h2]; rfl
              by_cases hb3 : gL (r2 : Int) = 3
              · have snb3 : ((bytesOf nb).toList == [76, 102]) = true := by rw [HSB.out 3 [76, 102] rfl, hb3]; rfl
                have hq : (kk == 2) = false := by rw [← HEnd.out, h2, hb3]; rfl
                clear HEnd
                go_wp2_with fail
                go_meet
                exact ⟨by rw [hq], hbc⟩
              · have snb3 : ((bytesOf nb).toList == [76, 102]) = false := by rw [HSB.out 3 [76, 102] rfl, beq_eq_false_iff_ne]; omega
                have hq : (kk == 2) = true := by
                  have e3 : (((gL (r2 : Int) : Nat) : Int) != 3) = true := by rw [bne_iff_ne]; omega
                  rw [← HEnd.out, h2]
                  show (_ || (_ && (((gL (r2 : Int) : Nat) : Int) != 3))) = true
                  rw [e3]; rfl
                clear HEnd
                go_wp2_with fail
                go_meet
                exact ⟨by rw [hq], hbc⟩
            · have sna1 : ((bytesOf na).toList == [66, 107]) = false := by rw [HSA.out 1 [66, 107] rfl, beq_eq_false_iff_ne]; omega
              have sna3 : ((bytesOf na).toList == [76, 102]) = false := by rw [HSA.out 3 [76, 102] rfl, beq_eq_false_iff_ne]; omega
              have sna2 : ((bytesOf na).toList == [67, 114]) = false := by rw [HSA.out 2 [67, 114] rfl, beq_eq_false_iff_ne]; omega
              have hq : (kk == 2) = false := by
                have e1 : (((gL (r1 : Int) : Nat) : Int) == 1) = false := by rw [beq_eq_false_iff_ne]; omega
                have e2 : (((gL (r1 : Int) : Nat) : Int) == 2) = false := by rw [beq_eq_false_iff_ne]; omega
                have e3 : (((gL (r1 : Int) : Nat) : Int) == 3) = false := by rw [beq_eq_false_iff_ne]; omega
                rw [← HEnd.out]
                unfold endsL
                rw [e1, e2, e3]; rfl
              clear HEnd
              go_wp2_with fail
              go_meet
              exact ⟨by rw [hq], hbc⟩
          case rest =>
            clear hbc
            obtain ⟨rfl, hbc⟩ := hcut
            cases hq : (kk == 2) with
            | true =>
              go_wp2
              go_roundw
              case rel => exact ⟨i + 1, zb, rfl, by go_num, by omega, by omega, HZ2, hbc⟩
              case measure => simp [intOf]; omega
            | false =>
              have hE : endsL ((gL (r1 : Int) : Nat) : Int) ((gL (r2 : Int) : Nat) : Int) = false := by rw [HEnd.out, hq]
              have HE := Lib.hid hE
              clear HEnd hE
              go_upto_region 19 with fail
              go_cut [75] (fun vt wx => vt = .bool false ∧ Below w2.heap.size w2 wx)
              case first =>
                cases t1 : [[83, 112], [90, 119], [66, 107], [67, 114], [76, 102]].contains nb with
                | true =>
                  have hk0 : kk = 0 := F1.out HE.out t1
                  clear F1 F2 F3 F4 F5 hq
                  subst hk0
                  go_wp2_with fail
                  refine (yamong_b nb [[83, 112], [90, 119], [66, 107], [67, 114], [76, 102]] 5 _ _ rfl rfl (by decide)).mono ?_
                  rw [t1]
                  rintro e wn ⟨rfl, hz⟩
                  replace hbc := below_two hbc hz
                  clear hz
                  go_wp2_with fail
                  go_meet
                  exact ⟨rfl, hbc⟩
                | false =>
                  go_wp2_with fail
                  refine (yamong_b nb [[83, 112], [90, 119], [66, 107], [67, 114], [76, 102]] 5 _ _ rfl rfl (by decide)).mono ?_
                  rw [t1]
                  rintro e wn ⟨rfl, hz⟩
                  replace hbc := below_two hbc hz
                  clear hz
                  go_wp2_with fail
                  go_meet
                  exact ⟨rfl, hbc⟩
              case rest =>
                clear hbc
                obtain ⟨rfl, hbc⟩ := hcut
                go_upto_region 21 with fail
                go_cut [86] (fun vt wx => vt = .bool false ∧ Below w2.heap.size w2 wx)
                case first =>
                  cases zb with
                  | true =>
                    cases t1 : [[87, 106], [67, 108], [67, 112], [69, 120], [73, 115], [83, 121]].contains nb with
                    | true =>
                      go_wp2_with fail
                      refine (yamong_b nb [[87, 106], [67, 108], [67, 112], [69, 120], [73, 115], [83, 121]] 6 _ _ rfl rfl (by decide)).mono ?_
                      rw [t1]
                      rintro e wn ⟨rfl, hz⟩
                      replace hbc := below_two hbc hz
                      clear hz
                      go_wp2_with fail
                      go_meet
                      exact ⟨rfl, hbc⟩
                    | false =>
                      go_wp2_with fail
                      refine (yamong_b nb [[87, 106], [67, 108], [67, 112], [69, 120], [73, 115], [83, 121]] 6 _ _ rfl rfl (by decide)).mono ?_
                      rw [t1]
                      rintro e wn ⟨rfl, hz⟩
                      replace hbc := below_two hbc hz
                      clear hz
                      go_wp2_with fail
                      go_meet
                      exact ⟨rfl, hbc⟩
                  | false =>
                    cases t1 : [[87, 106], [67, 108], [67, 112], [69, 120], [73, 115], [83, 121]].contains nb with
                    | true =>
                      have hk0 : kk = 0 := F2.out HE.out t1 Hzb.out
                      clear F1 F2 F3 F4 F5 hq
                      subst hk0
                      go_wp2_with fail
                      refine (yamong_b nb [[87, 106], [67, 108], [67, 112], [69, 120], [73, 115], [83, 121]] 6 _ _ rfl rfl (by decide)).mono ?_
                      rw [t1]
                      rintro e wn ⟨rfl, hz⟩
                      replace hbc := below_two hbc hz
                      clear hz
                      go_wp2_with fail
                      go_meet
                      exact ⟨rfl, hbc⟩
                    | false =>
                      go_wp2_with fail
                      refine (yamong_b nb [[87, 106], [67, 108], [67, 112], [69, 120], [73, 115], [83, 121]] 6 _ _ rfl rfl (by decide)).mono ?_
                      rw [t1]
                      rintro e wn ⟨rfl, hz⟩
                      replace hbc := below_two hbc hz
                      clear hz
                      go_wp2_with fail
                      go_meet
                      exact ⟨rfl, hbc⟩
                case rest =>
                  clear hbc
                  obtain ⟨rfl, hbc⟩ := hcut
                  go_upto_region 23 with fail
                  go_cut [96] (fun vt wx => vt = .bool false ∧ Below w2.heap.size w2 wx)
                  case first =>
                    by_cases h7 : gL (r1 : Int) = 7
                    · have sna7 : ((bytesOf na).toList == [71, 108]) = true := by rw [HSA.out 7 [71, 108] rfl, h7]; rfl
                      have hk0 : kk = 0 := F3.out (.inl h7)
                      clear F1 F2 F3 F4 F5 hq
                      subst hk0
                      go_wp2_with fail
                      go_meet
                      exact ⟨rfl, hbc⟩
                    by_cases h6 : gL (r1 : Int) = 6
                    · have sna7 : ((bytesOf na).toList == [71, 108]) = false := by rw [HSA.out 7 [71, 108] rfl, beq_eq_false_iff_ne]; omega
                      have sna6 : ((bytesOf na).toList == [87, 106]) = true := by rw [HSA.out 6 [87, 106] rfl, h6]; rfl
                      have hk0 : kk = 0 := F3.out (.inr h6)
                      clear F1 F2 F3 F4 F5 hq
                      subst hk0
                      go_wp2_with fail
                      go_meet
                      exact ⟨rfl, hbc⟩
                    · have sna7 : ((bytesOf na).toList == [71, 108]) = false := by rw [HSA.out 7 [71, 108] rfl, beq_eq_false_iff_ne]; omega
                      have sna6 : ((bytesOf na).toList == [87, 106]) = false := by rw [HSA.out 6 [87, 106] rfl, beq_eq_false_iff_ne]; omega
                      go_wp2_with fail
                      go_meet
                      exact ⟨rfl, hbc⟩
                  case rest =>
                    clear hbc
                    obtain ⟨rfl, hbc⟩ := hcut
                    go_upto_region 25 with fail
                    go_cut [107] (fun vt wx => vt = .bool false ∧ Below w2.heap.size w2 wx)
                    case first =>
                      by_cases h0 : gL (r1 : Int) = 0
                      · have sna0 : ((bytesOf na).toList == [79, 116, 104, 101, 114]) = true := by rw [HSA.out 0 [79, 116, 104, 101, 114] rfl, h0]; rfl
                        cases t1 : [[79, 116, 104, 101, 114], [78, 117], [71, 108], [87, 106]].contains nb with
                        | true =>
                          have hk0 : kk = 0 := F4.out h0 t1
                          clear F1 F2 F3 F4 F5 hq
                          subst hk0
                          go_wp2_with fail
                          refine (yamong_b nb [[79, 116, 104, 101, 114], [78, 117], [71, 108], [87, 106]] 4 _ _ rfl rfl (by decide)).mono ?_
                          rw [t1]
                          rintro e wn ⟨rfl, hz⟩
                          replace hbc := below_two hbc hz
                          clear hz
                          go_wp2_with fail
                          go_meet
                          exact ⟨rfl, hbc⟩
                        | false =>
                          go_wp2_with fail
                          refine (yamong_b nb [[79, 116, 104, 101, 114], [78, 117], [71, 108], [87, 106]] 4 _ _ rfl rfl (by decide)).mono ?_
                          rw [t1]
                          rintro e wn ⟨rfl, hz⟩
                          replace hbc := below_two hbc hz
                          clear hz
                          go_wp2_with fail
                          go_meet
                          exact ⟨rfl, hbc⟩
                      · have sna0 : ((bytesOf na).toList == [79, 116, 104, 101, 114]) = false := by rw [HSA.out 0 [79, 116, 104, 101, 114] rfl, beq_eq_false_iff_ne]; omega
                        go_wp2_with fail
                        go_meet
                        exact ⟨rfl, hbc⟩
                    case rest =>
                      clear hbc
                      obtain ⟨rfl, hbc⟩ := hcut
                      go_upto_region 27 with fail
                      go_cut [118] (fun vt wx => vt = .bool false ∧ Below w2.heap.size w2 wx)
                      case first =>
                        by_cases h0 : gL (r1 : Int) = 20
                        · have sna20 : ((bytesOf na).toList == [78, 117]) = true := by rw [HSA.out 20 [78, 117] rfl, h0]; rfl
                          cases t1 : [[79, 116, 104, 101, 114], [78, 117]].contains nb with
                          | true =>
                            have hk0 : kk = 0 := F5.out h0 t1
                            clear F1 F2 F3 F4 F5 hq
                            subst hk0
                            go_wp2_with fail
                            refine (yamong_b nb [[79, 116, 104, 101, 114], [78, 117]] 2 _ _ rfl rfl (by decide)).mono ?_
                            rw [t1]
                            rintro e wn ⟨rfl, hz⟩
                            replace hbc := below_two hbc hz
                            clear hz
                            go_wp2_with fail
                            go_meet
                            exact ⟨rfl, hbc⟩
                          | false =>
                            go_wp2_with fail
                            refine (yamong_b nb [[79, 116, 104, 101, 114], [78, 117]] 2 _ _ rfl rfl (by decide)).mono ?_
                            rw [t1]
                            rintro e wn ⟨rfl, hz⟩
                            replace hbc := below_two hbc hz
                            clear hz
                            go_wp2_with fail
                            go_meet
                            exact ⟨rfl, hbc⟩
                        · have sna20 : ((bytesOf na).toList == [78, 117]) = false := by rw [HSA.out 20 [78, 117] rfl, beq_eq_false_iff_ne]; omega
                          go_wp2_with fail
                          go_meet
                          exact ⟨rfl, hbc⟩
                      case rest =>
                        clear hbc
                        obtain ⟨rfl, hbc⟩ := hcut
                        go_wp2
                        go_roundw
                        case rel => exact ⟨i + 1, zb, rfl, by go_num, by omega, by omega, HZ2, hbc⟩
                        case measure => simp [intOf]; omega
    · have HL := Lib.hid (HLv.out wr (hE2.out.below hb))
      go_wp2_with fail
      refine HL.out.mono ?_
      rintro e w6 ⟨rfl, hb6⟩
      go_wp2
      go_ret
      exact ⟨rfl, below_two (below_step hb3 hb hsz3) hb6⟩
end Go.Proofs.YthlnfefpdmecaaaGreatDoor

