/-
  Several texts in one, in their build order: LinS, LinT, Tu.
-/
import Derived.Test.YtinfnfgflcjfmaaGreatDoorZ1c
import Derived.Test.YtinfnfgflcjfmaaGreatDoorZ1a
import Derived.Test.YtinfnfgflcjfmaaGreatDoorZ9a
/-
  PLAIN: lines: behind blanks that follow a letter, ahead of a letter. Words: flags by twos; which places are bounds. No walk.
-/
namespace Go.Proofs.YtinfnfgflcjfmaaGreatDoor

theorem lPast_run {c : List Int} {k : Int} {m : Nat} : ∀ (n : Nat), (∀ j, j < n → c.getD (m + j) 0 = k) → lPast c k (m + n) = lPast c k m
  | 0, _ => rfl
  | n + 1, h => by
    show lPast c k ((m + n) + 1) = _
    rw [lPast_on (h n (by omega)), lPast_run n (fun j hj => h j (by omega))]
/-- Within blanks behind a letter. -/
theorem lBlank_in {c : List Int} {m n i : Nat} (h0 : c.getD m 0 = 0) (hb : ∀ j, j < n → c.getD (m + 1 + j) 0 = 4) (hi : i < n) : lCut c (m + 1 + i) = false := by
  cases i with
  | zero =>
    have h4 := hb 0 (by omega)
    refine lCut_blank (by rw [h0]; rfl) ?_
    rw [Nat.add_zero] at h4
    rw [h4]; rfl
  | succ i =>
    have h4 := hb (i + 1) hi
    have h5 := hb i (by omega)
    have : lCut c ((m + 1 + i) + 1) = false := lCut_blank (by rw [h5]; rfl) (by rw [show m + 1 + i + 1 = m + 1 + (i + 1) by omega, h4]; rfl)
    exact this
/-- Behind them, ahead of a letter. -/
theorem lBlank_end {c : List Int} {m n : Nat} (h0 : c.getD m 0 = 0) (hb : ∀ j, j < n → c.getD (m + 1 + j) 0 = 4) (hn : 1 ≤ n) (hq : c.getD (m + 1 + n) 0 = 0) : lCut c (m + 1 + n) = true ∧ lMust (c.getD (m + 1 + n - 1) 0) = false := by
  obtain ⟨k, rfl⟩ : ∃ k, n = k + 1 := ⟨n - 1, by omega⟩
  have h4 := hb k (by omega)
  have e : m + 1 + (k + 1) - 1 = m + 1 + k := by omega
  have p4 : lPast c 4 (m + 1 + (k + 1)) = m + 1 := by rw [lPast_run (m := m + 1) (k + 1) hb, lPast_here (by rw [h0]; omega)]
  have p8 : lPast c 8 (m + 1 + (k + 1)) = m + 1 + (k + 1) := by
    show lPast c 8 ((m + 1 + k) + 1) = _
    rw [lPast_here (by rw [h4]; omega)]; rfl
  have b4 : lLast c (m + 1 + (k + 1)) = 4 := by
    show lLast c ((m + 1 + k) + 1) = 4
    rw [lLast_succ, h4]
  have o8 : lPast c 8 (m + 1) = m + 1 := lPast_here (by rw [h0]; omega)
  refine ⟨?_, by rw [e, h4]; rfl⟩
  unfold lCut lOver
  dsimp only
  rw [e, h4, hq, p4, p8, b4, o8, lLast_succ, h0]
  rfl

/- Words. -/
theorem wPick_mem {c : List Int} {a : Nat} : ∀ {P : List Nat} {i : Nat}, a ∈ wPick c i P ↔ ∃ k, P[k]? = some a ∧ (i + k = 0 ∨ wCut c (i + k) = true)
  | [], i => by simp [wPick]
  | b :: P, i => by
    rw [wPick, List.mem_append, wPick_mem (P := P)]
    constructor
    · rintro (h | ⟨k, h1, h2⟩)
      · split at h
        · rename_i hc
          simp at h
          exact ⟨0, by simp [h], by simpa using hc⟩
        · simp at h
      · exact ⟨k + 1, by simpa using h1, by rw [show i + (k + 1) = i + 1 + k by omega]; exact h2⟩
    · rintro ⟨k, h1, h2⟩
      cases k with
      | zero =>
        simp at h1; subst h1
        exact .inl (by rw [if_pos (by simpa using h2)]; simp)
      | succ k => exact .inr ⟨k, by simpa using h1, by rw [show i + 1 + k = i + (k + 1) by omega]; exact h2⟩
theorem places_inj (s : ByteArray) {k j : Nat} {x y : Nat × Nat × Nat} (hk : (runesP s)[k]? = some x) (hj : (runesP s)[j]? = some y) (h : x.2.1 = y.2.1) : k = j := by
  have hr := List.pairwise_iff_getElem.1 (runes_rise s)
  obtain ⟨h1, rfl⟩ := List.getElem?_eq_some_iff.1 hk
  obtain ⟨h2, rfl⟩ := List.getElem?_eq_some_iff.1 hj
  rcases Nat.lt_trichotomy k j with hlt | he | hgt
  · have := hr k j h1 h2 hlt; omega
  · exact he
  · have := hr j k h2 h1 hgt; omega
/-- Whether a bound stands ahead of a rune. -/
theorem wBounds_at {g : Int → Nat} {s : ByteArray} {k : Nat} {x : Nat × Nat × Nat} (hx : (runesP s)[k]? = some x) : x.2.1 ∈ wBounds g s ↔ k = 0 ∨ wCut (wCls g s) k = true := by
  have hb := runesP_bd x (List.mem_of_getElem? hx)
  unfold wBounds
  rw [List.mem_append]
  constructor
  · rintro (h | h)
    · obtain ⟨j, h1, h2⟩ := wPick_mem.1 h
      rw [List.getElem?_map] at h1
      obtain ⟨y, hy, e⟩ := Option.map_eq_some_iff.1 h1
      have := places_inj s hx hy e.symm
      subst this
      simpa using h2
    · split at h
      · simp at h
      · simp at h; omega
  · intro h
    exact .inl (wPick_mem.2 ⟨k, by rw [List.getElem?_map, hx]; rfl, by simpa using h⟩)
theorem wReg_run {c : List Int} {m : Nat} (hm : wOf c (wBack c m) ≠ 7) : ∀ (i f : Nat), (∀ j, j < i → c.getD (m + j) 0 = 7) → m + i ≤ c.length → m + i < f → wRegGo c f (m + i) = i
  | _, 0, _, _, h => by omega
  | 0, f + 1, _, _, _ => by rw [wRegGo, Nat.add_zero, if_neg hm]
  | i + 1, f + 1, h, hl, hf => by
    have h7 := h i (by omega)
    have hb : wBack c (m + (i + 1)) = (m + i : Nat) := by
      show wBack c ((m + i) + 1) = _
      exact wBack_here (by rw [h7]; rfl)
    rw [wRegGo, hb, wOf_nat (by omega), h7, if_pos rfl, Int.toNat_natCast, wReg_run hm i f (fun j hj => h j (by omega)) (by omega) (by omega)]
theorem letters_flag (z n : Int) : wLetters z 7 7 n = false := by unfold wLetters; simp [wLet, wInW, wInN, wJoin]
/-- Of a run of flags every second place within is a bound. -/
theorem wCut_flags {c : List Int} {m n i : Nat} (hm : wOf c (wBack c m) ≠ 7) (h : ∀ j, j < n → c.getD (m + j) 0 = 7) (hl : m + n ≤ c.length) (h1 : 1 ≤ i) (hi : i < n) : wCut c (m + i) = (i % 2 == 0) := by
  obtain ⟨k, rfl⟩ : ∃ k, i = k + 1 := ⟨i - 1, by omega⟩
  have hp := h k (by omega)
  have hq := h (k + 1) hi
  have hb : wBack c (m + (k + 1)) = (m + k : Nat) := by
    show wBack c ((m + k) + 1) = _
    exact wBack_here (by rw [hp]; rfl)
  have hr : wReg c (m + (k + 1)) = k + 1 := wReg_run hm (k + 1) _ (fun j hj => h j (by omega)) (by omega) (by omega)
  unfold wCut
  dsimp only
  rw [show m + (k + 1) - 1 = m + k by omega, hp, hq, hb, wOf_nat (by omega), hp, letters_flag, hr]
  rfl
end Go.Proofs.YtinfnfgflcjfmaaGreatDoor

/-
  PLAIN: lines: which chances there are; a line's end stands at the end of a line alone. No walk.
-/
namespace Go.Proofs.YtinfnfgflcjfmaaGreatDoor

theorem lPick_mem {c : List Int} {a : Nat} {b : Bool} : ∀ {P : List Nat} {i : Nat}, (a, b) ∈ lPick c i P ↔ ∃ k, P[k]? = some a ∧ i + k ≠ 0 ∧ lCut c (i + k) = true ∧ b = lMust (c.getD (i + k - 1) 0)
  | [], i => by simp [lPick]
  | d :: P, i => by
    rw [lPick, List.mem_append, lPick_mem (P := P)]
    constructor
    · rintro (h | ⟨k, h1, h2, h3, h4⟩)
      · split at h
        · rename_i hc
          simp only [List.mem_singleton, Prod.mk.injEq] at h
          exact ⟨0, by simp [h.1], hc.1, hc.2, h.2⟩
        · simp at h
      · refine ⟨k + 1, by simpa using h1, by omega, ?_, ?_⟩
        · rw [show i + (k + 1) = i + 1 + k by omega]; exact h3
        · rw [show i + (k + 1) - 1 = i + 1 + k - 1 by omega]; exact h4
    · rintro ⟨k, h1, h2, h3, h4⟩
      cases k with
      | zero =>
        simp at h1; subst h1
        exact .inl (by rw [if_pos ⟨h2, h3⟩, h4]; exact List.mem_singleton.2 rfl)
      | succ k =>
        refine .inr ⟨k, by simpa using h1, by omega, ?_, ?_⟩
        · rw [show i + 1 + k = i + (k + 1) by omega]; exact h3
        · rw [show i + 1 + k - 1 = i + (k + 1) - 1 by omega]; exact h4
theorem lInj (s : ByteArray) {k j : Nat} {x y : Nat × Nat × Nat} (hk : (runesP s)[k]? = some x) (hj : (runesP s)[j]? = some y) (h : x.2.1 = y.2.1) : k = j := by
  have hr := List.pairwise_iff_getElem.1 (runes_rise' s)
  obtain ⟨h1, rfl⟩ := List.getElem?_eq_some_iff.1 hk
  obtain ⟨h2, rfl⟩ := List.getElem?_eq_some_iff.1 hj
  rcases Nat.lt_trichotomy k j with hlt | he | hgt
  · have := hr k j h1 h2 hlt; omega
  · exact he
  · have := hr j k h2 h1 hgt; omega
/-- Which chance stands ahead of a rune. -/
theorem lChances_at {g : Int → Nat} {s : ByteArray} {k : Nat} {x : Nat × Nat × Nat} (hx : (runesP s)[k]? = some x) (b : Bool) : (x.2.1, b) ∈ lChances g s ↔ k ≠ 0 ∧ lCut (lCls g s) k = true ∧ b = lMust ((lCls g s).getD (k - 1) 0) := by
  have hb := runesP_bd x (List.mem_of_getElem? hx)
  unfold lChances
  rw [List.mem_append]
  constructor
  · rintro (h | h)
    · obtain ⟨j, h1, h2, h3, h4⟩ := lPick_mem.1 h
      rw [List.getElem?_map] at h1
      obtain ⟨y, hy, e⟩ := Option.map_eq_some_iff.1 h1
      have := lInj s hx hy e.symm
      subst this
      rw [Nat.zero_add] at h2 h3 h4
      exact ⟨h2, h3, h4⟩
    · split at h
      · simp at h
      · simp at h; omega
  · rintro ⟨h2, h3, h4⟩
    exact .inl (lPick_mem.2 ⟨k, by rw [List.getElem?_map, hx]; rfl, by rw [Nat.zero_add]; exact ⟨h2, h3, h4⟩⟩)
/-- Within a line no line ends. -/
theorem line_inside {g : Int → Nat} {s : ByteArray} {a b : Nat} (hab : a ≤ b) (ha : PlaceAt s a) (hb : PlaceAt s b) (hno : ∀ p, a < p → p < b → (p, true) ∉ lChances g s) {i : Nat} {p q : Int} (hp : (lCls g (s.extract a b))[i]? = some p) (hq : (lCls g (s.extract a b))[i + 1]? = some q) :
    p ≠ 1 ∧ p ≠ 3 ∧ (p = 2 → q = 3 ∧ i + 2 = (lCls g (s.extract a b)).length) := by
  obtain ⟨P, Q, hPQ, hP, hQ⟩ := runes_sub s hab ha hb
  have hbz := hb.le
  have ht : (s.extract a b).size = b - a := by rw [ByteArray.size_extract]; omega
  have hcs : lCls g s = P.map (fun x => (g x.1 : Int)) ++ lCls g (s.extract a b) ++ Q.map (fun x => (g x.1 : Int)) := by
    unfold lCls
    rw [hPQ, List.map_append, List.map_append, List.map_map]; rfl
  have hget : ∀ k (v : Int), (lCls g (s.extract a b))[k]? = some v → (lCls g s).getD (P.length + k) 0 = v := fun k v hk => by
    have hlt := (List.getElem?_eq_some_iff.1 hk).1
    rw [hcs, List.getD_eq_getElem?_getD, List.append_assoc, List.getElem?_append_right (by rw [List.length_map]; omega), List.length_map, Nat.add_sub_cancel_left, List.getElem?_append_left hlt, hk]; rfl
  -- a place inside, behind the first rune
  have hin : ∀ k, 0 < k → k < (lCls g (s.extract a b)).length → ¬ (lCut (lCls g s) (P.length + k) = true ∧ lMust ((lCls g s).getD (P.length + k - 1) 0) = true) := fun k hk0 hk hc => by
    rw [lCls_len] at hk
    have hx : (runesP s)[P.length + k]? = some (shR a (runesP (s.extract a b))[k]) := by
      rw [hPQ, List.append_assoc, List.getElem?_append_right (by omega), Nat.add_sub_cancel_left, List.getElem?_append_left (by rw [List.length_map]; exact hk), List.getElem?_map, List.getElem?_eq_getElem hk]; rfl
    have hb2 := runesP_bd _ (List.getElem_mem hk)
    have h0 : (runesP (s.extract a b))[0].2.1 < (runesP (s.extract a b))[k].2.1 := List.pairwise_iff_getElem.1 (runes_rise' _) 0 k (by omega) hk hk0
    refine hno (shR a (runesP (s.extract a b))[k]).2.1 (by simp only [shR]; omega) (by simp only [shR]; omega) ?_
    exact (lChances_at hx true).2 ⟨by omega, hc.1, hc.2.symm⟩
  have hlq := (List.getElem?_eq_some_iff.1 hq).1
  have gp := hget i p hp
  have gq := hget (i + 1) q hq
  have step : lMust p = true → p = 2 ∧ q = 3 := fun hm => by
    have hc := lCut_end (c := lCls g s) (i := P.length + i) (by rw [gp]; exact hm)
    have gq' : (lCls g s).getD (P.length + i + 1) 0 = q := gq
    rw [gp, gq'] at hc
    by_cases h23 : p = 2 ∧ q = 3
    · exact h23
    · exfalso
      rw [decide_eq_false h23] at hc
      exact hin (i + 1) (by omega) hlq ⟨hc, by rw [show P.length + (i + 1) - 1 = P.length + i by omega, gp]; exact hm⟩
  refine ⟨fun h => ?_, fun h => ?_, fun h => ?_⟩
  · have := step (by rw [h]; rfl); omega
  · have := step (by rw [h]; rfl); omega
  · obtain ⟨_, hq3⟩ := step (by rw [h]; rfl)
    refine ⟨hq3, ?_⟩
    rcases Nat.lt_or_ge (i + 2) (lCls g (s.extract a b)).length with hlt | hge
    · exfalso
      have hc := lCut_end (c := lCls g s) (i := P.length + (i + 1)) (by rw [gq, hq3]; rfl)
      rw [gq, decide_eq_false (by omega)] at hc
      exact hin (i + 2) (by omega) hlt ⟨hc, by rw [show P.length + (i + 2) - 1 = P.length + (i + 1) by omega, gq, hq3]; rfl⟩
    · omega
end Go.Proofs.YtinfnfgflcjfmaaGreatDoor

/-
  PLAIN: lines: what a place is, by the cut ahead of its rune; blanks between two texts. No walk.
-/
namespace Go.Proofs.YtinfnfgflcjfmaaGreatDoor

theorem kinP_none : ∀ {l : List (Nat × Bool)} {k : Nat}, (∀ b, (k, b) ∉ l) → kinP l (k : Int) = 0
  | [], _, _ => rfl
  | x :: r, k, h => by
    rw [kinP, if_neg, kinP_none fun b hb => h b (List.mem_cons_of_mem _ hb)]
    intro e
    have : x.1 = k := by have := beq_iff_eq.1 e; omega
    exact h x.2 (by rw [← this]; simp)
theorem kinP_mem : ∀ {l : List (Nat × Bool)} {k : Nat} {b : Bool}, (k, b) ∈ l → (∀ b', (k, b') ∈ l → b' = b) → kinP l (k : Int) = if b then 2 else 1
  | x :: r, k, b, h, hu => by
    rw [kinP]
    by_cases e : x.1 = k
    · have hx : x.2 = b := hu x.2 (by rw [← e]; simp)
      rw [if_pos (by rw [e]; simp), hx]
    · rw [if_neg (by rw [beq_iff_eq]; omega)]
      rcases List.mem_cons.1 h with h | h
      · exact absurd (by rw [← h]) e
      · exact kinP_mem h fun b' hb => hu b' (List.mem_cons_of_mem _ hb)
/-- What the place of a rune is that is not the first. -/
theorem kind_at {g : Int → Nat} {s : ByteArray} {k : Nat} {x : Nat × Nat × Nat} (hx : (runesP s)[k]? = some x) (hk : k ≠ 0) :
    kinP (lChances g s) (x.2.1 : Int) = if lCut (lCls g s) k = true then (if lMust ((lCls g s).getD (k - 1) 0) then 2 else 1) else 0 := by
  by_cases hc : lCut (lCls g s) k = true
  · rw [if_pos hc]
    exact kinP_mem ((lChances_at hx _).2 ⟨hk, hc, rfl⟩) fun b' hb => ((lChances_at hx b').1 hb).2.2
  · rw [if_neg hc]
    exact kinP_none fun b hb => hc ((lChances_at hx b).1 hb).2.1

/-- Blanks behind a text. -/
def sp (s : ByteArray) (j : Nat) : ByteArray := bytesOf (s.data.toList ++ List.replicate j 32)
theorem sp_zero (s : ByteArray) : sp s 0 = s := by unfold sp; rw [List.replicate_zero, List.append_nil]; exact bytesOf_data s
theorem sp_data (s : ByteArray) (j : Nat) : (sp s j).data.toList = s.data.toList ++ List.replicate j 32 := bytesOf_list _
theorem sp_size (s : ByteArray) (j : Nat) : (sp s j).size = s.size + j := by rw [← size_data, sp_data, List.length_append, List.length_replicate, size_data]
theorem sp_succ (s : ByteArray) (j : Nat) : sp s j ++ ⟨#[32]⟩ = sp s (j + 1) := by
  rw [← bytesOf_data (sp s j ++ ⟨#[32]⟩), ← bytesOf_data (sp s (j + 1))]
  congr 1
  rw [sp_data, ByteArray.data_append, Array.toList_append, sp_data, List.replicate_succ', List.append_assoc]
theorem runes_sp (s : ByteArray) : ∀ j, runesP (sp s j) = runesP s ++ (List.range j).map fun i => (32, s.size + i, s.size + i + 1)
  | 0 => by rw [sp_zero]; simp
  | j + 1 => by
    have := runes_join (sp s j) ⟨#[]⟩ 32 (by decide) (u := sp s (j + 1)) (by rw [sp_data, sp_data, List.replicate_succ', List.append_assoc])
    rw [this, runes_sp s j, sp_size, List.range_succ, List.map_append, List.append_assoc]
    rfl
theorem runes_spt (s t : ByteArray) {n : Nat} (hn : 1 ≤ n) {u : ByteArray} (hu : u.data.toList = (sp s n).data.toList ++ t.data.toList) :
    runesP u = runesP s ++ (List.range n).map (fun i => (32, s.size + i, s.size + i + 1)) ++ (runesP t).map (shR (s.size + n)) := by
  obtain ⟨j, rfl⟩ : ∃ j, n = j + 1 := ⟨n - 1, by omega⟩
  have := runes_join (sp s j) t 32 (by decide) (u := u) (by rw [hu, sp_data, sp_data, List.replicate_succ', ← List.append_assoc, List.append_assoc]; rfl)
  rw [this, runes_sp s j, sp_size, List.range_succ, List.map_append]
  simp [Nat.add_assoc]
section
variable {s t u : ByteArray} {n : Nat} {x y : Nat × Nat × Nat}
theorem gL_blank : gL 32 = 4 := by kernel_rfl
theorem blank_cls (hn : 1 ≤ n) (hu : u.data.toList = (sp s n).data.toList ++ t.data.toList) : lCls gL u = lCls gL s ++ List.replicate n 4 ++ lCls gL t := by
  unfold lCls
  rw [runes_spt s t hn hu, List.map_append, List.map_append, List.map_map, List.map_map]
  congr 1
  congr 1
  rw [show ((fun x : Nat × Nat × Nat => ((gL (x.1 : Int) : Nat) : Int)) ∘ fun i => (32, s.size + i, s.size + i + 1)) = fun _ : Nat => (4 : Int) from funext fun _ => by show ((gL 32 : Nat) : Int) = 4; rw [gL_blank]; rfl]
  rw [List.map_const', List.length_range]
theorem blank_facts (hn : 1 ≤ n) (hu : u.data.toList = (sp s n).data.toList ++ t.data.toList) (hx : (runesP s)[(runesP s).length - 1]? = some x) (hy : (runesP t)[0]? = some y) (gx : gL (x.1 : Int) = 0) (gy : gL (y.1 : Int) = 0) :
    ∃ m, (runesP s).length = m + 1 ∧ (lCls gL u).getD m 0 = 0 ∧ (∀ j, j < n → (lCls gL u).getD (m + 1 + j) 0 = 4) ∧ (lCls gL u).getD (m + 1 + n) 0 = 0 := by
  have hl : 0 < (runesP s).length := by have := (List.getElem?_eq_some_iff.1 hx).1; omega
  obtain ⟨m, hm⟩ : ∃ m, (runesP s).length = m + 1 := ⟨(runesP s).length - 1, by omega⟩
  have hlen : (lCls gL s).length = m + 1 := by rw [lCls_len, hm]
  refine ⟨m, hm, ?_, fun j hj => ?_, ?_⟩
  · rw [blank_cls hn hu, List.append_assoc, List.getD_eq_getElem?_getD, List.getElem?_append_left (by omega)]
    unfold lCls
    rw [hm, Nat.add_sub_cancel] at hx
    rw [List.getElem?_map, hx]
    simp [gx]
  · rw [blank_cls hn hu, List.append_assoc, List.getD_eq_getElem?_getD, List.getElem?_append_right (by omega), List.getElem?_append_left (by simp; omega), hlen]
    rw [show m + 1 + j - (m + 1) = j by omega, List.getElem?_replicate, if_pos hj]; rfl
  · rw [blank_cls hn hu, List.getD_eq_getElem?_getD, List.getElem?_append_right (by simp; omega)]
    have h0 : (lCls gL s ++ List.replicate n (4 : Int)).length = m + 1 + n := by rw [List.length_append, List.length_replicate, hlen]
    rw [h0, Nat.sub_self]
    unfold lCls
    rw [List.getElem?_map, hy]
    simp [gy]
theorem blank_in (hn : 1 ≤ n) (hu : u.data.toList = (sp s n).data.toList ++ t.data.toList) (hx : (runesP s)[(runesP s).length - 1]? = some x) (hy : (runesP t)[0]? = some y) (gx : gL (x.1 : Int) = 0) (gy : gL (y.1 : Int) = 0) {i : Nat} (hi : i < n) :
    kinP (lChances gL u) ((s.size : Int) + (i : Int)) = 0 := by
  obtain ⟨m, hm, h0, hb, _⟩ := blank_facts hn hu hx hy gx gy
  have hr : (runesP u)[m + 1 + i]? = some (32, s.size + i, s.size + i + 1) := by
    rw [runes_spt s t hn hu, List.append_assoc, List.getElem?_append_right (by omega), List.getElem?_append_left (by simp; omega), hm]
    rw [show m + 1 + i - (m + 1) = i by omega, List.getElem?_map, List.getElem?_range hi]; rfl
  have := kind_at (g := gL) hr (by omega)
  rw [lBlank_in h0 hb hi, if_neg (by simp)] at this
  simpa using this
theorem blank_end (hn : 1 ≤ n) (hu : u.data.toList = (sp s n).data.toList ++ t.data.toList) (hx : (runesP s)[(runesP s).length - 1]? = some x) (hy : (runesP t)[0]? = some y) (gx : gL (x.1 : Int) = 0) (gy : gL (y.1 : Int) = 0) :
    kinP (lChances gL u) ((s.size + n : Nat) : Int) = 1 := by
  obtain ⟨m, hm, h0, hb, hq⟩ := blank_facts hn hu hx hy gx gy
  have hy0 : y.2.1 = 0 := by
    have hc := runesP_contig t
    cases hr : runesP t with
    | nil => rw [hr] at hy; cases hy
    | cons z r =>
      rw [hr] at hy hc
      simp at hy
      subst hy
      cases r with
      | nil => exact hc.1
      | cons z2 r2 => exact hc.1
  have hr : (runesP u)[m + 1 + n]? = some (shR (s.size + n) y) := by
    rw [runes_spt s t hn hu, List.getElem?_append_right (by simp; omega)]
    have h0 : (runesP s ++ (List.range n).map (fun i => (32, s.size + i, s.size + i + 1))).length = m + 1 + n := by rw [List.length_append, List.length_map, List.length_range, hm]
    rw [h0, Nat.sub_self, List.getElem?_map, hy]; rfl
  have := kind_at (g := gL) hr (by omega)
  obtain ⟨h1, h2⟩ := lBlank_end h0 hb hn hq
  rw [h1, h2, if_pos rfl] at this
  unfold shR at this
  simp only [hy0] at this
  simpa using this
end
end Go.Proofs.YtinfnfgflcjfmaaGreatDoor

