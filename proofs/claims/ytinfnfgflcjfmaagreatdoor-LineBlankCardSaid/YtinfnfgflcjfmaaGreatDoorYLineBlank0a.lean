/-
  Several texts in one, in their build order: LinS, LinT, Tu, Tw.
-/
import Derived.Test.YtinfnfgflcjfmaaGreatDoorZ1c
import Derived.Test.YtinfnfgflcjfmaaGreatDoorZ1a
import Derived.Test.YtinfnfgflcjfmaaGreatDoorZ9a
import Derived.Test.YtinfnfgflcjfmaaGreatDoorZ8a
/-
  PLAIN: lines: behind blanks that follow a letter, ahead of a letter. Words: flags by twos; which places are bounds. No walk.
-/
namespace Go.Proofs.YtinfnfgflcjfmaaGreatDoor

theorem lPast_run {c : List Int} {k : Int} {m : Nat} : ∀ (n : Nat), (∀ j, j < n → c.getD (m + j) 0 = k) → lPast c k (m + n) = lPast c k m
  | 0, _ => rfl
  | n + 1, h => by
    show lPast c k ((m + n) + 1) = _
    rw [lPast_on (h n (by omega)), lPast_run n (fun j hj => h j (by omega))]
/-- Within blanks behind a letter. -/
theorem lBlank_in {c : List Int} {m n i : Nat} (h0 : c.getD m 0 = 0) (hb : ∀ j, j < n → c.getD (m + 1 + j) 0 = 4) (hi : i < n) : lCut c (m + 1 + i) = false := by
  cases i with
  | zero =>
    have h4 := hb 0 (by omega)
    refine lCut_blank (by rw [h0]; rfl) ?_
    rw [Nat.add_zero] at h4
    rw [h4]; rfl
  | succ i =>
    have h4 := hb (i + 1) hi
    have h5 := hb i (by omega)
    have : lCut c ((m + 1 + i) + 1) = false := lCut_blank (by rw [h5]; rfl) (by rw [show m + 1 + i + 1 = m + 1 + (i + 1) by omega, h4]; rfl)
    exact this
/-- Behind them, ahead of a letter. -/
theorem lBlank_end {c : List Int} {m n : Nat} (h0 : c.getD m 0 = 0) (hb : ∀ j, j < n → c.getD (m + 1 + j) 0 = 4) (hn : 1 ≤ n) (hq : c.getD (m + 1 + n) 0 = 0) : lCut c (m + 1 + n) = true ∧ lMust (c.getD (m + 1 + n - 1) 0) = false := by
  obtain ⟨k, rfl⟩ : ∃ k, n = k + 1 := ⟨n - 1, by omega⟩
  have h4 := hb k (by omega)
  have e : m + 1 + (k + 1) - 1 = m + 1 + k := by omega
  have p4 : lPast c 4 (m + 1 + (k + 1)) = m + 1 := by rw [lPast_run (m := m + 1) (k + 1) hb, lPast_here (by rw [h0]; omega)]
  have p8 : lPast c 8 (m + 1 + (k + 1)) = m + 1 + (k + 1) := by
    show lPast c 8 ((m + 1 + k) + 1) = _
    rw [lPast_here (by rw [h4]; omega)]; rfl
  have b4 : lLast c (m + 1 + (k + 1)) = 4 := by
    show lLast c ((m + 1 + k) + 1) = 4
    rw [lLast_succ, h4]
  have o8 : lPast c 8 (m + 1) = m + 1 := lPast_here (by rw [h0]; omega)
  refine ⟨?_, by rw [e, h4]; rfl⟩
  unfold lCut lOver
  dsimp only
  rw [e, h4, hq, p4, p8, b4, o8, lLast_succ, h0]
  rfl

/- Words. -/
theorem wPick_mem {c : List Int} {a : Nat} : ∀ {P : List Nat} {i : Nat}, a ∈ wPick c i P ↔ ∃ k, P[k]? = some a ∧ (i + k = 0 ∨ wCut c (i + k) = true)
  | [], i => by simp [wPick]
  | b :: P, i => by
    rw [wPick, List.mem_append, wPick_mem (P := P)]
    constructor
    · rintro (h | ⟨k, h1, h2⟩)
      · split at h
        · rename_i hc
          simp at h
          exact ⟨0, by simp [h], by simpa using hc⟩
        · simp at h
      · exact ⟨k + 1, by simpa using h1, by rw [show i + (k + 1) = i + 1 + k by omega]; exact h2⟩
    · rintro ⟨k, h1, h2⟩
      cases k with
      | zero =>
        simp at h1; subst h1
        exact .inl (by rw [if_pos (by simpa using h2)]; simp)
      | succ k => exact .inr ⟨k, by simpa using h1, by rw [show i + 1 + k = i + (k + 1) by omega]; exact h2⟩
theorem places_inj (s : ByteArray) {k j : Nat} {x y : Nat × Nat × Nat} (hk : (runesP s)[k]? = some x) (hj : (runesP s)[j]? = some y) (h : x.2.1 = y.2.1) : k = j := by
  have hr := List.pairwise_iff_getElem.1 (runes_rise s)
  obtain ⟨h1, rfl⟩ := List.getElem?_eq_some_iff.1 hk
  obtain ⟨h2, rfl⟩ := List.getElem?_eq_some_iff.1 hj
  rcases Nat.lt_trichotomy k j with hlt | he | hgt
  · have := hr k j h1 h2 hlt; omega
  · exact he
  · have := hr j k h2 h1 hgt; omega
/-- Whether a bound stands ahead of a rune. -/
theorem wBounds_at {g : Int → Nat} {s : ByteArray} {k : Nat} {x : Nat × Nat × Nat} (hx : (runesP s)[k]? = some x) : x.2.1 ∈ wBounds g s ↔ k = 0 ∨ wCut (wCls g s) k = true := by
  have hb := runesP_bd x (List.mem_of_getElem? hx)
  unfold wBounds
  rw [List.mem_append]
  constructor
  · rintro (h | h)
    · obtain ⟨j, h1, h2⟩ := wPick_mem.1 h
      rw [List.getElem?_map] at h1
      obtain ⟨y, hy, e⟩ := Option.map_eq_some_iff.1 h1
      have := places_inj s hx hy e.symm
      subst this
      simpa using h2
    · split at h
      · simp at h
      · simp at h; omega
  · intro h
    exact .inl (wPick_mem.2 ⟨k, by rw [List.getElem?_map, hx]; rfl, by simpa using h⟩)
theorem wReg_run {c : List Int} {m : Nat} (hm : wOf c (wBack c m) ≠ 7) : ∀ (i f : Nat), (∀ j, j < i → c.getD (m + j) 0 = 7) → m + i ≤ c.length → m + i < f → wRegGo c f (m + i) = i
  | _, 0, _, _, h => by omega
  | 0, f + 1, _, _, _ => by rw [wRegGo, Nat.add_zero, if_neg hm]
  | i + 1, f + 1, h, hl, hf => by
    have h7 := h i (by omega)
    have hb : wBack c (m + (i + 1)) = (m + i : Nat) := by
      show wBack c ((m + i) + 1) = _
      exact wBack_here (by rw [h7]; rfl)
    rw [wRegGo, hb, wOf_nat (by omega), h7, if_pos rfl, Int.toNat_natCast, wReg_run hm i f (fun j hj => h j (by omega)) (by omega) (by omega)]
theorem letters_flag (z n : Int) : wLetters z 7 7 n = false := by unfold wLetters; simp [wLet, wInW, wInN, wJoin]
/-- Of a run of flags every second place within is a bound. -/
theorem wCut_flags {c : List Int} {m n i : Nat} (hm : wOf c (wBack c m) ≠ 7) (h : ∀ j, j < n → c.getD (m + j) 0 = 7) (hl : m + n ≤ c.length) (h1 : 1 ≤ i) (hi : i < n) : wCut c (m + i) = (i % 2 == 0) := by
  obtain ⟨k, rfl⟩ : ∃ k, i = k + 1 := ⟨i - 1, by omega⟩
  have hp := h k (by omega)
  have hq := h (k + 1) hi
  have hb : wBack c (m + (k + 1)) = (m + k : Nat) := by
    show wBack c ((m + k) + 1) = _
    exact wBack_here (by rw [hp]; rfl)
  have hr : wReg c (m + (k + 1)) = k + 1 := wReg_run hm (k + 1) _ (fun j hj => h j (by omega)) (by omega) (by omega)
  unfold wCut
  dsimp only
  rw [show m + (k + 1) - 1 = m + k by omega, hp, hq, hb, wOf_nat (by omega), hp, letters_flag, hr]
  rfl
end Go.Proofs.YtinfnfgflcjfmaaGreatDoor

/-
  PLAIN: lines: which chances there are; a line's end stands at the end of a line alone. No walk.
-/
namespace Go.Proofs.YtinfnfgflcjfmaaGreatDoor

theorem lPick_mem {c : List Int} {a : Nat} {b : Bool} : ∀ {P : List Nat} {i : Nat}, (a, b) ∈ lPick c i P ↔ ∃ k, P[k]? = some a ∧ i + k ≠ 0 ∧ lCut c (i + k) = true ∧ b = lMust (c.getD (i + k - 1) 0)
  | [], i => by simp [lPick]
  | d :: P, i => by
    rw [lPick, List.mem_append, lPick_mem (P := P)]
    constructor
    · rintro (h | ⟨k, h1, h2, h3, h4⟩)
      · split at h
        · rename_i hc
          simp only [List.mem_singleton, Prod.mk.injEq] at h
          exact ⟨0, by simp [h.1], hc.1, hc.2, h.2⟩
        · simp at h
      · refine ⟨k + 1, by simpa using h1, by omega, ?_, ?_⟩
        · rw [show i + (k + 1) = i + 1 + k by omega]; exact h3
        · rw [show i + (k + 1) - 1 = i + 1 + k - 1 by omega]; exact h4
    · rintro ⟨k, h1, h2, h3, h4⟩
      cases k with
      | zero =>
        simp at h1; subst h1
        exact .inl (by rw [if_pos ⟨h2, h3⟩, h4]; exact List.mem_singleton.2 rfl)
      | succ k =>
        refine .inr ⟨k, by simpa using h1, by omega, ?_, ?_⟩
        · rw [show i + 1 + k = i + (k + 1) by omega]; exact h3
        · rw [show i + 1 + k - 1 = i + (k + 1) - 1 by omega]; exact h4
theorem lInj (s : ByteArray) {k j : Nat} {x y : Nat × Nat × Nat} (hk : (runesP s)[k]? = some x) (hj : (runesP s)[j]? = some y) (h : x.2.1 = y.2.1) : k = j := by
  have hr := List.pairwise_iff_getElem.1 (runes_rise' s)
  obtain ⟨h1, rfl⟩ := List.getElem?_eq_some_iff.1 hk
  obtain ⟨h2, rfl⟩ := List.getElem?_eq_some_iff.1 hj
  rcases Nat.lt_trichotomy k j with hlt | he | hgt
  · have := hr k j h1 h2 hlt; omega
  · exact he
  · have := hr j k h2 h1 hgt; omega
/-- Which chance stands ahead of a rune. -/
theorem lChances_at {g : Int → Nat} {s : ByteArray} {k : Nat} {x : Nat × Nat × Nat} (hx : (runesP s)[k]? = some x) (b : Bool) : (x.2.1, b) ∈ lChances g s ↔ k ≠ 0 ∧ lCut (lCls g s) k = true ∧ b = lMust ((lCls g s).getD (k - 1) 0) := by
  have hb := runesP_bd x (List.mem_of_getElem? hx)
  unfold lChances
  rw [List.mem_append]
  constructor
  · rintro (h | h)
    · obtain ⟨j, h1, h2, h3, h4⟩ := lPick_mem.1 h
      rw [List.getElem?_map] at h1
      obtain ⟨y, hy, e⟩ := Option.map_eq_some_iff.1 h1
      have := lInj s hx hy e.symm
      subst this
      rw [Nat.zero_add] at h2 h3 h4
      exact ⟨h2, h3, h4⟩
    · split at h
      · simp at h
      · simp at h; omega
  · rintro ⟨h2, h3, h4⟩
    exact .inl (lPick_mem.2 ⟨k, by rw [List.getElem?_map, hx]; rfl, by rw [Nat.zero_add]; exact ⟨h2, h3, h4⟩⟩)
/-- Within a line no line ends. -/
theorem line_inside {g : Int → Nat} {s : ByteArray} {a b : Nat} (hab : a ≤ b) (ha : PlaceAt s a) (hb : PlaceAt s b) (hno : ∀ p, a < p → p < b → (p, true) ∉ lChances g s) {i : Nat} {p q : Int} (hp : (lCls g (s.extract a b))[i]? = some p) (hq : (lCls g (s.extract a b))[i + 1]? = some q) :
    p ≠ 1 ∧ p ≠ 3 ∧ (p = 2 → q = 3 ∧ i + 2 = (lCls g (s.extract a b)).length) := by
  obtain ⟨P, Q, hPQ, hP, hQ⟩ := runes_sub s hab ha hb
  have hbz := hb.le
  have ht : (s.extract a b).size = b - a := by rw [ByteArray.size_extract]; omega
  have hcs : lCls g s = P.map (fun x => (g x.1 : Int)) ++ lCls g (s.extract a b) ++ Q.map (fun x => (g x.1 : Int)) := by
    unfold lCls
    rw [hPQ, List.map_append, List.map_append, List.map_map]; rfl
  have hget : ∀ k (v : Int), (lCls g (s.extract a b))[k]? = some v → (lCls g s).getD (P.length + k) 0 = v := fun k v hk => by
    have hlt := (List.getElem?_eq_some_iff.1 hk).1
    rw [hcs, List.getD_eq_getElem?_getD, List.append_assoc, List.getElem?_append_right (by rw [List.length_map]; omega), List.length_map, Nat.add_sub_cancel_left, List.getElem?_append_left hlt, hk]; rfl
  -- a place inside, behind the first rune
  have hin : ∀ k, 0 < k → k < (lCls g (s.extract a b)).length → ¬ (lCut (lCls g s) (P.length + k) = true ∧ lMust ((lCls g s).getD (P.length + k - 1) 0) = true) := fun k hk0 hk hc => by
    rw [lCls_len] at hk
    have hx : (runesP s)[P.length + k]? = some (shR a (runesP (s.extract a b))[k]) := by
      rw [hPQ, List.append_assoc, List.getElem?_append_right (by omega), Nat.add_sub_cancel_left, List.getElem?_append_left (by rw [List.length_map]; exact hk), List.getElem?_map, List.getElem?_eq_getElem hk]; rfl
    have hb2 := runesP_bd _ (List.getElem_mem hk)
    have h0 : (runesP (s.extract a b))[0].2.1 < (runesP (s.extract a b))[k].2.1 := List.pairwise_iff_getElem.1 (runes_rise' _) 0 k (by omega) hk hk0
    refine hno (shR a (runesP (s.extract a b))[k]).2.1 (by simp only [shR]; omega) (by simp only [shR]; omega) ?_
    exact (lChances_at hx true).2 ⟨by omega, hc.1, hc.2.symm⟩
  have hlq := (List.getElem?_eq_some_iff.1 hq).1
  have gp := hget i p hp
  have gq := hget (i + 1) q hq
  have step : lMust p = true → p = 2 ∧ q = 3 := fun hm => by
    have hc := lCut_end (c := lCls g s) (i := P.length + i) (by rw [gp]; exact hm)
    have gq' : (lCls g s).getD (P.length + i + 1) 0 = q := gq
    rw [gp, gq'] at hc
    by_cases h23 : p = 2 ∧ q = 3
    · exact h23
    · exfalso
      rw [decide_eq_false h23] at hc
      exact hin (i + 1) (by omega) hlq ⟨hc, by rw [show P.length + (i + 1) - 1 = P.length + i by omega, gp]; exact hm⟩
  refine ⟨fun h => ?_, fun h => ?_, fun h => ?_⟩
  · have := step (by rw [h]; rfl); omega
  · have := step (by rw [h]; rfl); omega
  · obtain ⟨_, hq3⟩ := step (by rw [h]; rfl)
    refine ⟨hq3, ?_⟩
    rcases Nat.lt_or_ge (i + 2) (lCls g (s.extract a b)).length with hlt | hge
    · exfalso
      have hc := lCut_end (c := lCls g s) (i := P.length + (i + 1)) (by rw [gq, hq3]; rfl)
      rw [gq, decide_eq_false (by omega)] at hc
      exact hin (i + 2) (by omega) hlt ⟨hc, by rw [show P.length + (i + 2) - 1 = P.length + (i + 1) by omega, gq, hq3]; rfl⟩
    · omega
end Go.Proofs.YtinfnfgflcjfmaaGreatDoor

/-
  PLAIN: lines: what a place is, by the cut ahead of its rune; blanks between two texts. No walk.
-/
namespace Go.Proofs.YtinfnfgflcjfmaaGreatDoor

theorem kinP_none : ∀ {l : List (Nat × Bool)} {k : Nat}, (∀ b, (k, b) ∉ l) → kinP l (k : Int) = 0
  | [], _, _ => rfl
  | x :: r, k, h => by
    rw [kinP, if_neg, kinP_none fun b hb => h b (List.mem_cons_of_mem _ hb)]
    intro e
    have : x.1 = k := by have := beq_iff_eq.1 e; omega
    exact h x.2 (by rw [← this]; simp)
theorem kinP_mem : ∀ {l : List (Nat × Bool)} {k : Nat} {b : Bool}, (k, b) ∈ l → (∀ b', (k, b') ∈ l → b' = b) → kinP l (k : Int) = if b then 2 else 1
  | x :: r, k, b, h, hu => by
    rw [kinP]
    by_cases e : x.1 = k
    · have hx : x.2 = b := hu x.2 (by rw [← e]; simp)
      rw [if_pos (by rw [e]; simp), hx]
    · rw [if_neg (by rw [beq_iff_eq]; omega)]
      rcases List.mem_cons.1 h with h | h
      · exact absurd (by rw [← h]) e
      · exact kinP_mem h fun b' hb => hu b' (List.mem_cons_of_mem _ hb)
/-- What the place of a rune is that is not the first. -/
theorem kind_at {g : Int → Nat} {s : ByteArray} {k : Nat} {x : Nat × Nat × Nat} (hx : (runesP s)[k]? = some x) (hk : k ≠ 0) :
    kinP (lChances g s) (x.2.1 : Int) = if lCut (lCls g s) k = true then (if lMust ((lCls g s).getD (k - 1) 0) then 2 else 1) else 0 := by
  by_cases hc : lCut (lCls g s) k = true
  · rw [if_pos hc]
    exact kinP_mem ((lChances_at hx _).2 ⟨hk, hc, rfl⟩) fun b' hb => ((lChances_at hx b').1 hb).2.2
  · rw [if_neg hc]
    exact kinP_none fun b hb => hc ((lChances_at hx b).1 hb).2.1

/-- Blanks behind a text. -/
def sp (s : ByteArray) (j : Nat) : ByteArray := bytesOf (s.data.toList ++ List.replicate j 32)
theorem sp_zero (s : ByteArray) : sp s 0 = s := by unfold sp; rw [List.replicate_zero, List.append_nil]; exact bytesOf_data s
theorem sp_data (s : ByteArray) (j : Nat) : (sp s j).data.toList = s.data.toList ++ List.replicate j 32 := bytesOf_list _
theorem sp_size (s : ByteArray) (j : Nat) : (sp s j).size = s.size + j := by rw [← size_data, sp_data, List.length_append, List.length_replicate, size_data]
theorem sp_succ (s : ByteArray) (j : Nat) : sp s j ++ ⟨#[32]⟩ = sp s (j + 1) := by
  rw [← bytesOf_data (sp s j ++ ⟨#[32]⟩), ← bytesOf_data (sp s (j + 1))]
  congr 1
  rw [sp_data, ByteArray.data_append, Array.toList_append, sp_data, List.replicate_succ', List.append_assoc]
theorem runes_sp (s : ByteArray) : ∀ j, runesP (sp s j) = runesP s ++ (List.range j).map fun i => (32, s.size + i, s.size + i + 1)
  | 0 => by rw [sp_zero]; simp
  | j + 1 => by
    have := runes_join (sp s j) ⟨#[]⟩ 32 (by decide) (u := sp s (j + 1)) (by rw [sp_data, sp_data, List.replicate_succ', List.append_assoc])
    rw [this, runes_sp s j, sp_size, List.range_succ, List.map_append, List.append_assoc]
    rfl
theorem runes_spt (s t : ByteArray) {n : Nat} (hn : 1 ≤ n) {u : ByteArray} (hu : u.data.toList = (sp s n).data.toList ++ t.data.toList) :
    runesP u = runesP s ++ (List.range n).map (fun i => (32, s.size + i, s.size + i + 1)) ++ (runesP t).map (shR (s.size + n)) := by
  obtain ⟨j, rfl⟩ : ∃ j, n = j + 1 := ⟨n - 1, by omega⟩
  have := runes_join (sp s j) t 32 (by decide) (u := u) (by rw [hu, sp_data, sp_data, List.replicate_succ', ← List.append_assoc, List.append_assoc]; rfl)
  rw [this, runes_sp s j, sp_size, List.range_succ, List.map_append]
  simp [Nat.add_assoc]
section
variable {s t u : ByteArray} {n : Nat} {x y : Nat × Nat × Nat}
theorem gL_blank : gL 32 = 4 := by kernel_rfl
theorem blank_cls (hn : 1 ≤ n) (hu : u.data.toList = (sp s n).data.toList ++ t.data.toList) : lCls gL u = lCls gL s ++ List.replicate n 4 ++ lCls gL t := by
  unfold lCls
  rw [runes_spt s t hn hu, List.map_append, List.map_append, List.map_map, List.map_map]
  congr 1
  congr 1
  rw [show ((fun x : Nat × Nat × Nat => ((gL (x.1 : Int) : Nat) : Int)) ∘ fun i => (32, s.size + i, s.size + i + 1)) = fun _ : Nat => (4 : Int) from funext fun _ => by show ((gL 32 : Nat) : Int) = 4; rw [gL_blank]; rfl]
  rw [List.map_const', List.length_range]
theorem blank_facts (hn : 1 ≤ n) (hu : u.data.toList = (sp s n).data.toList ++ t.data.toList) (hx : (runesP s)[(runesP s).length - 1]? = some x) (hy : (runesP t)[0]? = some y) (gx : gL (x.1 : Int) = 0) (gy : gL (y.1 : Int) = 0) :
    ∃ m, (runesP s).length = m + 1 ∧ (lCls gL u).getD m 0 = 0 ∧ (∀ j, j < n → (lCls gL u).getD (m + 1 + j) 0 = 4) ∧ (lCls gL u).getD (m + 1 + n) 0 = 0 := by
  have hl : 0 < (runesP s).length := by have := (List.getElem?_eq_some_iff.1 hx).1; omega
  obtain ⟨m, hm⟩ : ∃ m, (runesP s).length = m + 1 := ⟨(runesP s).length - 1, by omega⟩
  have hlen : (lCls gL s).length = m + 1 := by rw [lCls_len, hm]
  refine ⟨m, hm, ?_, fun j hj => ?_, ?_⟩
  · rw [blank_cls hn hu, List.append_assoc, List.getD_eq_getElem?_getD, List.getElem?_append_left (by omega)]
    unfold lCls
    rw [hm, Nat.add_sub_cancel] at hx
    rw [List.getElem?_map, hx]
    simp [gx]
  · rw [blank_cls hn hu, List.append_assoc, List.getD_eq_getElem?_getD, List.getElem?_append_right (by omega), List.getElem?_append_left (by simp; omega), hlen]
    rw [show m + 1 + j - (m + 1) = j by omega, List.getElem?_replicate, if_pos hj]; rfl
  · rw [blank_cls hn hu, List.getD_eq_getElem?_getD, List.getElem?_append_right (by simp; omega)]
    have h0 : (lCls gL s ++ List.replicate n (4 : Int)).length = m + 1 + n := by rw [List.length_append, List.length_replicate, hlen]
    rw [h0, Nat.sub_self]
    unfold lCls
    rw [List.getElem?_map, hy]
    simp [gy]
theorem blank_in (hn : 1 ≤ n) (hu : u.data.toList = (sp s n).data.toList ++ t.data.toList) (hx : (runesP s)[(runesP s).length - 1]? = some x) (hy : (runesP t)[0]? = some y) (gx : gL (x.1 : Int) = 0) (gy : gL (y.1 : Int) = 0) {i : Nat} (hi : i < n) :
    kinP (lChances gL u) ((s.size : Int) + (i : Int)) = 0 := by
  obtain ⟨m, hm, h0, hb, _⟩ := blank_facts hn hu hx hy gx gy
  have hr : (runesP u)[m + 1 + i]? = some (32, s.size + i, s.size + i + 1) := by
    rw [runes_spt s t hn hu, List.append_assoc, List.getElem?_append_right (by omega), List.getElem?_append_left (by simp; omega), hm]
    rw [show m + 1 + i - (m + 1) = i by omega, List.getElem?_map, List.getElem?_range hi]; rfl
  have := kind_at (g := gL) hr (by omega)
  rw [lBlank_in h0 hb hi, if_neg (by simp)] at this
  simpa using this
theorem blank_end (hn : 1 ≤ n) (hu : u.data.toList = (sp s n).data.toList ++ t.data.toList) (hx : (runesP s)[(runesP s).length - 1]? = some x) (hy : (runesP t)[0]? = some y) (gx : gL (x.1 : Int) = 0) (gy : gL (y.1 : Int) = 0) :
    kinP (lChances gL u) ((s.size + n : Nat) : Int) = 1 := by
  obtain ⟨m, hm, h0, hb, hq⟩ := blank_facts hn hu hx hy gx gy
  have hy0 : y.2.1 = 0 := by
    have hc := runesP_contig t
    cases hr : runesP t with
    | nil => rw [hr] at hy; cases hy
    | cons z r =>
      rw [hr] at hy hc
      simp at hy
      subst hy
      cases r with
      | nil => exact hc.1
      | cons z2 r2 => exact hc.1
  have hr : (runesP u)[m + 1 + n]? = some (shR (s.size + n) y) := by
    rw [runes_spt s t hn hu, List.getElem?_append_right (by simp; omega)]
    have h0 : (runesP s ++ (List.range n).map (fun i => (32, s.size + i, s.size + i + 1))).length = m + 1 + n := by rw [List.length_append, List.length_map, List.length_range, hm]
    rw [h0, Nat.sub_self, List.getElem?_map, hy]; rfl
  have := kind_at (g := gL) hr (by omega)
  obtain ⟨h1, h2⟩ := lBlank_end h0 hb hn hq
  rw [h1, h2, if_pos rfl] at this
  unfold shR at this
  simp only [hy0] at this
  simpa using this
end
end Go.Proofs.YtinfnfgflcjfmaaGreatDoor

/-
  kerflaw14.LineBlank, walked.
-/
namespace Go.Proofs.YtinfnfgflcjfmaaGreatDoor
open Go.RowKit

theorem other_iff (r : Int) : ((bytesOf (nmL r)).toList == [79, 116, 104, 101, 114]) = decide (gL r = 0) := by
  have hlt : gL r < linesD.names.length := by rw [names_len]; exact gL_lt _
  rw [ByteArray.toList_eq, bytesOf_list]
  have : ∀ k : Nat, k < 26 → ∀ nm ∈ linesD.names[k]?, (nm == [79, 116, 104, 101, 114]) = decide (k = 0) := by decide
  refine this (gL r) (gL_lt r) _ ?_
  unfold nmL
  rw [List.getElem?_eq_getElem hlt]; rfl

set_option maxRecDepth 100000 in
set_option maxHeartbeats 8000000 in
theorem yLineBlank_any (s : ByteArray) (n : Int) (t : ByteArray) (w : World) (hE : Env w) (hs : s.size ≤ 140737488355328) (ht : t.size ≤ 140737488355328) :
    Calls Tryz.prog 6 #[.string s, .int .i64 n, .string t] w fun e w' => e = .returned (.bool true) ∧ Below w.heap.size w w' := by

  by_cases h1 : 60 < s.size + t.size
  · have HL := Lib.hid (ylive_any w hE)
    have g1 : (60 : Int) < (s.size : Int) + (t.size : Int) := by omega
    clear h1
    go_enter Tryz.func6, Tryz.ntmps6
    go_wp2_with fail
    refine HL.out.mono ?_
    rintro e w1 ⟨rfl, hb⟩
    go_wp2
    go_ret
    exact ⟨rfl, hb⟩
  have g1 : ¬ (60 : Int) < (s.size : Int) + (t.size : Int) := by omega
  by_cases h2 : n < 1
  · have HL := Lib.hid (ylive_any w hE)
    clear h1
    go_enter Tryz.func6, Tryz.ntmps6
    go_wp2_with fail
    refine HL.out.mono ?_
    rintro e w1 ⟨rfl, hb⟩
    go_wp2
    go_ret
    exact ⟨rfl, hb⟩
  by_cases h3 : 8 < n
  · have HL := Lib.hid (ylive_any w hE)
    clear h1
    go_enter Tryz.func6, Tryz.ntmps6
    go_wp2_with fail
    refine HL.out.mono ?_
    rintro e w1 ⟨rfl, hb⟩
    go_wp2
    go_ret
    exact ⟨rfl, hb⟩
  obtain ⟨N, rfl⟩ : ∃ N : Nat, n = N := ⟨n.toNat, by omega⟩
  have hN1 : 1 ≤ N := by omega
  have hN8 : N ≤ 8 := by omega
  have hsz : s.size ≤ 60 := by omega
  have htz : t.size ≤ 60 := by omega
  have HLv := Lib.hid (fun W (h : Env W) => ylive_any W h)
  have H1 := Lib.hid (xDb_any w)
  have H2 := Lib.hid (fun W => sRunes_any s W (by omega))
  have H3 := Lib.hid (fun W => sRunes_any t W (by omega))
  obtain ⟨X, HX⟩ : ∃ L, Hid (runesP s = L) := ⟨_, Lib.hid rfl⟩
  obtain ⟨Y, HY⟩ : ∃ L, Hid (runesP t = L) := ⟨_, Lib.hid rfl⟩
  have hXz : X.length ≤ 60 := by rw [← HX.out]; exact Nat.le_trans (runesP_len s) hsz
  have hYz : Y.length ≤ 60 := by rw [← HY.out]; exact Nat.le_trans (runesP_len t) htz
  clear h1 hs ht
  go_enter Tryz.func6, Tryz.ntmps6
  go_wp2_with fail
  refine H1.out.mono ?_
  rintro e w1 ⟨p, x, rfl, hd, hb1⟩
  go_wp2_with fail
  refine (H2.out w1).mono ?_
  rw [HX.out]
  rintro e w2 ⟨A, nx, cx, rfl, ho, hb2⟩
  go_wp2_with fail
  refine (H3.out w2).mono ?_
  rw [HY.out]
  rintro e w3 ⟨B, ny, cy, rfl, hp, hb3⟩
  have hnx : X.length = nx := by have := ho.len; simpa using this
  have hny : Y.length = ny := by have := hp.len; simpa using this
  have rdx := (ho.below hb3).rd (by decide)
  have rdy := hp.rd (by decide)
  have hb4 := below_two (below_two hb1 hb2) hb3
  have HD := Lib.hid ((hd.below hb2).below hb3)
  have HNm := Lib.hid (fun (r : Int) W (h : Below w3.heap.size w3 W) => xNamed_any w.heap.size p x r W (HD.out.below h))
  have hE3 := Lib.hid (hE.below hb4)
  clear H1 H2 H3 hd ho hp hb1 hb2 hb3 hE
  by_cases hx0 : nx = 0
  · have HL := Lib.hid (HLv.out w3 hE3.out)
    have e0 : ((nx : Int) == 0) = true := by rw [hx0]; rfl
    clear hx0
    go_wp2_with fail
    refine HL.out.mono ?_
    rintro e w4 ⟨rfl, hb⟩
    go_wp2
    go_ret
    exact ⟨rfl, below_two hb4 hb⟩
  have e0 : ((nx : Int) == 0) = false := beq_eq_false_iff_ne.2 (by omega)
  by_cases hy0 : ny = 0
  · have HL := Lib.hid (HLv.out w3 hE3.out)
    have f0 : ((ny : Int) == 0) = true := by rw [hy0]; rfl
    clear hy0 hx0
    go_wp2_with fail
    refine HL.out.mono ?_
    rintro e w4 ⟨rfl, hb⟩
    go_wp2
    go_ret
    exact ⟨rfl, below_two hb4 hb⟩
  have f0 : ((ny : Int) == 0) = false := beq_eq_false_iff_ne.2 (by omega)
  obtain ⟨j, hj⟩ : ∃ j, nx - 1 = j := ⟨_, rfl⟩
  have e1 : (nx : Int) - 1 = (j : Int) := by omega
  have hj2 : j < nx := by omega
  have hnz : nx ≤ 60 := by omega
  have hnz2 : ny ≤ 60 := by omega
  have hny1 : 0 < ny := by omega
  obtain ⟨⟨rx, ax, bx⟩, Hx⟩ : ∃ x, Hid (X[j]? = some x) := ⟨_, Lib.hid (List.getElem?_eq_getElem (by omega))⟩
  obtain ⟨⟨ry, ay, by_⟩, Hy⟩ : ∃ x, Hid (Y[0]? = some x) := ⟨_, Lib.hid (List.getElem?_eq_getElem (by omega))⟩
  have Hx' : Hid ((runesP s)[(runesP s).length - 1]? = some (rx, ax, bx)) := Lib.hid (by rw [HX.out, hnx, hj]; exact Hx.out)
  have Hy' : Hid ((runesP t)[0]? = some (ry, ay, by_)) := Lib.hid (by rw [HY.out]; exact Hy.out)
  obtain ⟨bk, off, rfl, c0, c1, c2⟩ := rdx.atRn Hx.out
  obtain ⟨bk', off', rfl, d0, d1, d2⟩ := rdy.atRn Hy.out
  simp only [Nat.zero_mul, Nat.add_zero] at c0 d0
  clear hx0 hy0 hj hnx hny c1 c2 d1 d2
  have HO1 := Lib.hid (other_iff (rx : Int))
  have HO2 := Lib.hid (other_iff (ry : Int))
  have HN1 := Lib.hid (fun W h => HNm.out (rx : Int) W h)
  have HN2 := Lib.hid (fun W h => HNm.out (ry : Int) W h)
  obtain ⟨nm1, Hnm1⟩ : ∃ nm, Hid (nmL (rx : Int) = nm) := ⟨_, Lib.hid rfl⟩
  obtain ⟨nm2, Hnm2⟩ : ∃ nm, Hid (nmL (ry : Int) = nm) := ⟨_, Lib.hid rfl⟩
  rw [Hnm1.out] at HO1
  rw [Hnm2.out] at HO2
  simp only [Hnm1.out] at HN1
  simp only [Hnm2.out] at HN2
  clear HNm
  by_cases g0 : gL (rx : Int) = 0
  · by_cases g2 : gL (ry : Int) = 0
    · have o1 : ((bytesOf nm1).toList == [79, 116, 104, 101, 114]) = true := by rw [HO1.out, g0]; rfl
      have o2 : ((bytesOf nm2).toList == [79, 116, 104, 101, 114]) = true := by rw [HO2.out, g2]; rfl
      have HG := Lib.hid (And.intro g0 g2)
      clear g0 g2
      go_wp2_with fail
      refine (HN1.out w3 (Below.refl _ _)).mono ?_
      rintro e w4 ⟨rfl, hb5⟩
      replace d0 := cell_keep d0 hb5
      go_wp2_with fail
      refine (HN2.out w4 hb5).mono ?_
      rintro e w5 ⟨rfl, hb6⟩
      have hb7 := below_two hb4 (below_two hb5 hb6)
      have hE5 := Lib.hid (hE3.out.below (below_two hb5 hb6))
      have HK := Lib.hid (fun (U : ByteArray) (k : Int) W (h : Below w5.heap.size w5 W) (hz : U.size ≤ 1000000) => tKind_any U k W (hE5.out.below h) hz)
      have HP0 := Lib.hid (fun (U : ByteArray) (hu : U.data.toList = (sp s N).data.toList ++ t.data.toList) (i : Nat) (hi : i < N) => blank_in hN1 hu Hx'.out Hy'.out HG.out.1 HG.out.2 hi)
      have HP1 := Lib.hid (fun (U : ByteArray) (hu : U.data.toList = (sp s N).data.toList ++ t.data.toList) => blank_end hN1 hu Hx'.out Hy'.out HG.out.1 HG.out.2)
      have HS0 := Lib.hid (sp_zero s)
      have HSz := Lib.hid (fun j => sp_size s j)
      have HSs := Lib.hid (fun j => sp_succ s j)
      have HE3 := hE3
      clear Hx' Hy' HG HN1 HN2 HO1 HO2 Hnm1 Hnm2 Hx Hy HX HY rdx rdy c0 d0 HD hE3
      go_wp2_with fail
      go_loopw [10, 11] (fun v u wr => ∃ (i : Nat) (q : ByteArray), v = .string q ∧ u = .int .i64 i ∧ i ≤ N ∧ q.size = s.size + i ∧ Hid (q = sp s i) ∧ wr = w5) (fun _ u _ => N - (intOf u).toNat)
      case atStart => exact ⟨0, s, rfl, rfl, by omega, by omega, Lib.hid HS0.out.symm, rfl⟩
      case round =>
        obtain ⟨i, q, rfl, rfl, hi, hqz, HQ, rfl⟩ := hrel
        by_cases hlt : i < N
        · have HQ' : Hid (q ++ ⟨#[32]⟩ = sp s (i + 1)) := Lib.hid (by rw [HQ.out]; exact HSs.out i)
          have hqz' : (q ++ ⟨#[32]⟩ : ByteArray).size = s.size + (i + 1) := by rw [ByteArray.size_append, hqz]; rfl
          have hq9 : ¬ 9223372036854775807 < q.size + 1 := by omega
          go_wp2
          go_roundw
          case rel => exact ⟨i + 1, _, rfl, by go_num, by omega, hqz', HQ', trivial⟩
          case measure => simp [intOf]; omega
        · obtain ⟨wo, hwo⟩ : ∃ u, u = wr := ⟨_, rfl⟩
          subst hwo
          obtain rfl : i = N := by omega
          have hUd : (q ++ t).data.toList = (sp s i).data.toList ++ t.data.toList := by rw [ByteArray.data_append, Array.toList_append, HQ.out]
          have HUd := Lib.hid hUd
          have hUz : (q ++ t).size = s.size + i + t.size := by rw [ByteArray.size_append, hqz]
          have hq9 : ¬ 9223372036854775807 < q.size + t.size := by omega
          obtain ⟨U, hU⟩ : ∃ U, q ++ t = U := ⟨_, rfl⟩
          rw [hU] at HUd hUz
          clear hUd
          go_wp2_with fail
          go_loopw [12] (fun v wq => ∃ k : Nat, v = .int .i64 k ∧ k ≤ i ∧ Below wo.heap.size wo wq) (fun v _ => i - (intOf v).toNat)
          case atStart => exact ⟨0, rfl, by omega, Below.refl _ _⟩
          case round =>
            obtain ⟨k, rfl, hk, hbk⟩ := hrel
            by_cases hlk : k < i
            · have HV := Lib.hid (HP0.out U HUd.out k hlk)
              have HKk := Lib.hid (HK.out U ((s.size : Int) + (k : Int)) _ hbk (by omega))
              rw [HV.out] at HKk
              have e5 : IntKind.i64.wrap ((s.size : Int) + (k : Int)) = (s.size : Int) + (k : Int) := IntWalk.i64_in _ (by omega)
              go_wp2_with fail
              refine HKk.out.mono ?_
              rintro e w6 ⟨rfl, hb8⟩
              go_wp2
              go_roundw
              case rel => exact ⟨k + 1, by go_num, by omega, below_two hbk hb8⟩
              case measure => simp [intOf]; omega
            · have HV := Lib.hid (HP1.out U HUd.out)
              have HKk := Lib.hid (HK.out U ((s.size + i : Nat) : Int) _ hbk (by omega))
              rw [HV.out, ← hqz] at HKk
              clear hqz hUz
              go_wp2_with fail
              refine HKk.out.mono ?_
              rintro e w6 ⟨rfl, hb8⟩
              have hb9 := below_two hbk hb8
              go_wp2_with fail
              refine (HLv.out w6 (hE5.out.below hb9)).mono ?_
              rintro e w7 ⟨rfl, hb⟩
              go_wp2
              go_ret
              exact ⟨rfl, below_two (below_two hb7 hb9) hb⟩
    · have o1 : ((bytesOf nm1).toList == [79, 116, 104, 101, 114]) = true := by rw [HO1.out, g0]; rfl
      have o2 : ((bytesOf nm2).toList == [79, 116, 104, 101, 114]) = false := by rw [HO2.out]; exact decide_eq_false g2
      clear g0 g2
      go_wp2_with fail
      refine (HN1.out w3 (Below.refl _ _)).mono ?_
      rintro e w4 ⟨rfl, hb5⟩
      replace d0 := cell_keep d0 hb5
      go_wp2_with fail
      refine (HN2.out w4 hb5).mono ?_
      rintro e w5 ⟨rfl, hb6⟩
      have hb7 := below_two hb4 (below_two hb5 hb6)
      go_wp2_with fail
      refine (HLv.out w5 (hE3.out.below (below_two hb5 hb6))).mono ?_
      rintro e w6 ⟨rfl, hb⟩
      go_wp2
      go_ret
      exact ⟨rfl, below_two hb7 hb⟩
  · have o1 : ((bytesOf nm1).toList == [79, 116, 104, 101, 114]) = false := by rw [HO1.out]; exact decide_eq_false g0
    clear g0
    go_wp2_with fail
    refine (HN1.out w3 (Below.refl _ _)).mono ?_
    rintro e w4 ⟨rfl, hb5⟩
    go_wp2_with fail
    refine (HLv.out w4 (hE3.out.below hb5)).mono ?_
    rintro e w6 ⟨rfl, hb⟩
    go_wp2
    go_ret
    exact ⟨rfl, below_two (below_two hb4 hb5) hb⟩
end Go.Proofs.YtinfnfgflcjfmaaGreatDoor

