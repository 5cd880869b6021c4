/-
  Several texts in one, in their build order: LinR, LinS.
-/
import Derived.Test.YthlnfefpdmecaaaGreatDoorYWordHolds0b
import Derived.Test.YthlnfefpdmecaaaGreatDoorYWordHolds0a
/-
  PLAIN: lines: the chances of a text; a line's end parts them; blanks. No walk.
-/
namespace Go.Proofs.YthlnfefpdmecaaaGreatDoor

/- Two texts with a whole rune between them. -/
theorem decN_tail {n b0 b1 b2 b3 R W : Nat} (h : Lib.decodeN n b0 b1 b2 b3 = (R, W)) : (2 ≤ W → b1 / 64 = 2) ∧ (3 ≤ W → b2 / 64 = 2) ∧ (4 ≤ W → b3 / 64 = 2) ∧ W ≤ 4 := by
  unfold Lib.decodeN at h
  repeat' split at h
  all_goals (injection h with _ h; omega)
theorem dec_tail {s : ByteArray} {i k R W : Nat} (h : Utf8.decode s i = (R, W)) (hk : 0 < k) (hW : k < W) : (s.get! (i + k)).toNat / 64 = 2 := by
  rw [Lib.decode_at] at h
  obtain ⟨h1, h2, h3, h4⟩ := decN_tail h
  rcases (show k = 1 ∨ k = 2 ∨ k = 3 by omega) with rfl | rfl | rfl
  · exact h1 (by omega)
  · exact h2 (by omega)
  · exact h3 (by omega)
/-- Where a byte stands that begins a rune a rune begins. -/
theorem lead_at (s : ByteArray) {z : Nat} (hz : z < s.size) (ha : (s.get! z).toNat / 64 ≠ 2) : ∀ (f a : Nat), s.size ≤ a + f → a ≤ z → ∃ x ∈ runesGo s f a, x.2.1 = z
  | 0, a, hf, hle => by omega
  | f + 1, a, hf, hle => by
    have hlt : a < s.size := by omega
    have hd := dec_bd s a hlt
    obtain ⟨⟨R, W⟩, hD⟩ : ∃ d, Utf8.decode s a = d := ⟨_, rfl⟩
    rw [hD] at hd
    simp only at hd
    have hr : runesGo s (f + 1) a = (R, a, a + W) :: runesGo s f (a + W) := by rw [runesGo, if_pos hlt, hD]
    rw [hr]
    by_cases haz : a = z
    · exact ⟨_, List.mem_cons_self, haz⟩
    · have hle2 : a + W ≤ z := by
        rcases Nat.lt_or_ge z (a + W) with h | h
        · have := dec_tail hD (k := z - a) (by omega) (by omega)
          rw [show a + (z - a) = z by omega] at this; omega
        · exact h
      obtain ⟨x, hx, e⟩ := lead_at s hz ha f (a + W) (by omega) hle2
      exact ⟨x, List.mem_cons_of_mem _ hx, e⟩
theorem runes_joinM (s t : ByteArray) (m : List UInt8) (R : Nat) (hm : Chunk m) (hR : (Utf8.decode (bytesOf m) 0).1 = R) (hl : (m.getD 0 0).toNat / 64 ≠ 2) {u : ByteArray} (hu : u.data.toList = s.data.toList ++ m ++ t.data.toList) :
    runesP u = runesP s ++ (R, s.size, s.size + m.length) :: (runesP t).map (shR (s.size + m.length)) := by
  obtain ⟨m1, m2, m3⟩ := hm
  have m1' : 0 < m.length := List.length_pos_iff.2 m1
  have hz : u.size = s.size + m.length + t.size := by rw [← size_data, hu, List.length_append, List.length_append, size_data, size_data]
  have hget : ∀ k, u.get! k = u.data.toList.getD k 0 := fun k => (Lib.getD_get!' u k).symm
  have hgm : ∀ k, k < m.length → u.get! (s.size + k) = m.getD k 0 := fun k hk => by
    rw [hget, hu, List.append_assoc, List.getD_eq_getElem?_getD, List.getD_eq_getElem?_getD, List.getElem?_append_right (by rw [size_data]; omega), size_data, Nat.add_sub_cancel_left, List.getElem?_append_left hk]
  have hplace := lead_at u (z := s.size) (by omega) (by have := hgm 0 m1'; rw [Nat.add_zero] at this; rw [this]; exact hl) u.size 0 (by omega) (Nat.zero_le _)
  have hs : u.extract 0 s.size = s := by
    have : (u.extract 0 s.size).data.toList = s.data.toList := by
      rw [ByteArray.data_extract, Array.toList_extract, List.extract_eq_take_drop, List.drop_zero, Nat.sub_zero, hu, List.append_assoc, List.take_append_of_le_length (by rw [size_data]; exact Nat.le_refl _), List.take_of_length_le (by rw [size_data]; exact Nat.le_refl _)]
    rw [← bytesOf_data (u.extract 0 s.size), this, bytesOf_data]
  have h1 : runesP s = (runesP u).takeWhile fun x => decide (x.2.1 < s.size) := by
    have := runesP_prefix u (z := s.size) (by omega) (.inr (.inr hplace))
    rw [hs] at this; exact this
  have h2 := split_at_place u (z := s.size) u.size 0 (by omega) hplace
  rw [h1]
  unfold runesP at h2 ⊢
  conv => lhs; rw [h2]
  congr 1
  obtain ⟨k, hk, e⟩ := runesGo_step (s := u) (f := u.size) (a := s.size) (by omega) (by omega)
  obtain ⟨⟨R', W⟩, hD⟩ : ∃ d, Utf8.decode (bytesOf m) 0 = d := ⟨_, rfl⟩
  rw [hD] at m2 m3 hR
  simp only at m2 m3 hR
  subst m2; subst hR
  have hd : Utf8.decode u s.size = (R', m.length) := dec_same hD (by omega) m3 (by omega) fun k hk => by rw [hgm k hk, bytesOf_get, Nat.zero_add]
  rw [e, hd]
  simp only
  congr 1
  have := runes_shift u t (s.size + m.length) (by omega) (fun k => by
    rw [hget, hu, ← Lib.getD_get!' t, List.getD_eq_getElem?_getD, List.getD_eq_getElem?_getD, List.getElem?_append_right (by rw [List.length_append, size_data]; omega), List.length_append, size_data, Nat.add_sub_cancel_left]) t.size k 0 (by omega) (by omega)
  rw [Nat.zero_add] at this
  exact this

def lCls (g : Int → Nat) (s : ByteArray) : List Int := (runesP s).map fun x => (g x.1 : Int)
def lPick (c : List Int) : Nat → List Nat → List (Nat × Bool)
  | _, [] => []
  | i, a :: r => (if i ≠ 0 ∧ lCut c i = true then [(a, lMust (c.getD (i - 1) 0))] else []) ++ lPick c (i + 1) r
/-- The chances of a text. -/
def lChances (g : Int → Nat) (s : ByteArray) : List (Nat × Bool) := lPick (lCls g s) 0 ((runesP s).map (·.2.1)) ++ (if s.size = 0 then [] else [(s.size, true)])
theorem lCls_len (g : Int → Nat) (s : ByteArray) : (lCls g s).length = (runesP s).length := by simp [lCls]
theorem lPick_append (c : List Int) : ∀ (P Q : List Nat) (i : Nat), lPick c i (P ++ Q) = lPick c i P ++ lPick c (i + P.length) Q
  | [], Q, i => by simp [lPick]
  | a :: P, Q, i => by
    rw [List.cons_append, lPick, lPick, lPick_append c P Q (i + 1), List.append_assoc, List.length_cons, show i + 1 + P.length = i + (P.length + 1) by omega]
theorem lPick_congr {c d : List Int} : ∀ (P : List Nat) (i j : Nat), (∀ k, k < P.length → ((i + k ≠ 0 ∧ lCut c (i + k) = true) ↔ (j + k ≠ 0 ∧ lCut d (j + k) = true)) ∧ (i + k ≠ 0 → c.getD (i + k - 1) 0 = d.getD (j + k - 1) 0)) → lPick c i P = lPick d j P
  | [], _, _, _ => rfl
  | a :: P, i, j, h => by
    have h0 := h 0 (by simp)
    simp only [Nat.add_zero] at h0
    rw [lPick, lPick, lPick_congr P (i + 1) (j + 1) (fun k hk => by
      have := h (k + 1) (by simpa using hk)
      rw [show i + 1 + k = i + (k + 1) by omega, show j + 1 + k = j + (k + 1) by omega]; exact this)]
    congr 1
    by_cases hc : i ≠ 0 ∧ lCut c i = true
    · rw [if_pos hc, if_pos (h0.1.1 hc), h0.2 hc.1]
    · rw [if_neg hc, if_neg (fun k => hc (h0.1.2 k))]
def shC (p : Nat) (x : Nat × Bool) : Nat × Bool := (x.1 + p, x.2)
theorem lPick_map (c : List Int) (p : Nat) : ∀ (P : List Nat) (i : Nat), lPick c i (P.map (· + p)) = (lPick c i P).map (shC p)
  | [], _ => rfl
  | a :: P, i => by
    rw [List.map_cons, lPick, lPick, lPick_map c p P (i + 1), List.map_append]
    congr 1
    split <;> rfl
/-- Behind a line's end a text begins anew. -/
theorem lChances_parts {g : Int → Nat} {m : List UInt8} {R : Nat} (hm : Chunk m) (hR : (Utf8.decode (bytesOf m) 0).1 = R) (hl : (m.getD 0 0).toNat / 64 ≠ 2) (hg : g R = 1 ∨ g R = 3) {s t u v : ByteArray} (hu : u.data.toList = s.data.toList ++ m) (hv : v.data.toList = s.data.toList ++ m ++ t.data.toList) :
    lChances g v = lChances g u ++ (lChances g t).map (shC u.size) := by
  have m1' : 0 < m.length := List.length_pos_iff.2 hm.1
  have zu : u.size = s.size + m.length := by rw [← size_data, hu, List.length_append, size_data]
  have zv : v.size = u.size + t.size := by rw [← size_data, hv, List.length_append, List.length_append, size_data, size_data]; omega
  have ru : runesP u = runesP s ++ [(R, s.size, s.size + m.length)] := by
    have := runes_joinM s (bytesOf []) m R hm hR hl (u := u) (by rw [hu, bytesOf_list, List.append_nil])
    rw [this]; rfl
  have rv := runes_joinM s t m R hm hR hl hv
  rw [← zu] at ru rv
  have he : (g R : Int) = 1 ∨ (g R : Int) = 3 := by omega
  have cu : lCls g u = lCls g s ++ [(g R : Int)] := by unfold lCls; rw [ru, List.map_append]; rfl
  have cv : lCls g v = lCls g s ++ (g R : Int) :: lCls g t := by
    unfold lCls
    rw [rv, List.map_append, List.map_cons, List.map_map]; rfl
  have pu : (runesP u).map (·.2.1) = (runesP s).map (·.2.1) ++ [s.size] := by rw [ru, List.map_append]; rfl
  have pv : (runesP v).map (·.2.1) = ((runesP s).map (·.2.1) ++ [s.size]) ++ ((runesP t).map (·.2.1)).map (· + u.size) := by
    rw [rv, List.map_append, List.map_cons, List.map_map, List.map_map, List.append_assoc]; rfl
  unfold lChances
  rw [pv, pu, cv, cu, lPick_append]
  generalize hA : lCls g s = A
  generalize hB : lCls g t = B
  have lA : A.length = (runesP s).length := by rw [← hA, lCls_len]
  have e1 : lPick (A ++ (g R : Int) :: B) 0 ((runesP s).map (·.2.1) ++ [s.size]) = lPick (A ++ [(g R : Int)]) 0 ((runesP s).map (·.2.1) ++ [s.size]) := lPick_congr _ 0 0 fun k hk => by
    rw [List.length_append, List.length_map, List.length_singleton, ← lA] at hk
    rw [Nat.zero_add]
    refine ⟨?_, fun h0 => by rw [gl_left (by omega), gl_left (by omega)]⟩
    by_cases h0 : k = 0
    · subst h0; simp
    · rw [lCut_left he (by omega) (by omega)]
  rw [e1, if_neg (by omega : ¬ u.size = 0), Nat.zero_add, List.length_append, List.length_map, List.length_singleton, ← lA]
  by_cases ht : t.size = 0
  · have : runesP t = [] := by unfold runesP; rw [ht]; rfl
    rw [this, if_neg (by omega), if_pos ht, zv, ht]
    simp [lPick]
  · rw [if_neg (by omega), if_neg ht]
    obtain ⟨k, hk, er⟩ := runesGo_step (s := t) (f := t.size) (a := 0) (by omega) (by omega)
    have hP : ∃ Q, (runesP t).map (·.2.1) = 0 :: Q := ⟨_, by unfold runesP; rw [er, List.map_cons]⟩
    obtain ⟨Q, hQ⟩ := hP
    rw [hQ, List.map_cons, lPick, if_pos ⟨by omega, lCut_begin he⟩, Nat.add_sub_cancel, gl_mid, lPick_map]
    have hmu : lMust (g R : Int) = true := by rcases he with h | h <;> rw [h] <;> rfl
    have e2 : lPick (A ++ (g R : Int) :: B) (A.length + 1 + 1) Q = lPick B 1 Q := lPick_congr _ _ _ fun k _ => by
      rw [show A.length + 1 + 1 + k = A.length + 1 + (k + 1) by omega, show 1 + k = k + 1 by omega, lCut_right he]
      refine ⟨by simp, fun _ => ?_⟩
      rw [show A.length + 1 + (k + 1) - 1 = A.length + 1 + k by omega, gl_right]; rfl
    have e3 : lPick B 0 (0 :: Q) = lPick B 1 Q := by rw [lPick, if_neg (by simp)]; rfl
    rw [e2, e3, hmu, zv, List.map_append]
    simp [shC, Nat.add_comm]
end Go.Proofs.YthlnfefpdmecaaaGreatDoor

/-
  PLAIN: lines: behind blanks that follow a letter, ahead of a letter. Words: flags by twos; which places are bounds. No walk.
-/
namespace Go.Proofs.YthlnfefpdmecaaaGreatDoor

theorem lPast_run {c : List Int} {k : Int} {m : Nat} : ∀ (n : Nat), (∀ j, j < n → c.getD (m + j) 0 = k) → lPast c k (m + n) = lPast c k m
  | 0, _ => rfl
  | n + 1, h => by
    show lPast c k ((m + n) + 1) = _
    rw [lPast_on (h n (by omega)), lPast_run n (fun j hj => h j (by omega))]
/-- Within blanks behind a letter. -/
theorem lBlank_in {c : List Int} {m n i : Nat} (h0 : c.getD m 0 = 0) (hb : ∀ j, j < n → c.getD (m + 1 + j) 0 = 4) (hi : i < n) : lCut c (m + 1 + i) = false := by
  cases i with
  | zero =>
    have h4 := hb 0 (by omega)
    refine lCut_blank (by rw [h0]; rfl) ?_
    rw [Nat.add_zero] at h4
    rw [h4]; rfl
  | succ i =>
    have h4 := hb (i + 1) hi
    have h5 := hb i (by omega)
    have : lCut c ((m + 1 + i) + 1) = false := lCut_blank (by rw [h5]; rfl) (by rw [show m + 1 + i + 1 = m + 1 + (i + 1) by omega, h4]; rfl)
    exact this
/-- Behind them, ahead of a letter. -/
theorem lBlank_end {c : List Int} {m n : Nat} (h0 : c.getD m 0 = 0) (hb : ∀ j, j < n → c.getD (m + 1 + j) 0 = 4) (hn : 1 ≤ n) (hq : c.getD (m + 1 + n) 0 = 0) : lCut c (m + 1 + n) = true ∧ lMust (c.getD (m + 1 + n - 1) 0) = false := by
  obtain ⟨k, rfl⟩ : ∃ k, n = k + 1 := ⟨n - 1, by omega⟩
  have h4 := hb k (by omega)
  have e : m + 1 + (k + 1) - 1 = m + 1 + k := by omega
  have p4 : lPast c 4 (m + 1 + (k + 1)) = m + 1 := by rw [lPast_run (m := m + 1) (k + 1) hb, lPast_here (by rw [h0]; omega)]
  have p8 : lPast c 8 (m + 1 + (k + 1)) = m + 1 + (k + 1) := by
    show lPast c 8 ((m + 1 + k) + 1) = _
    rw [lPast_here (by rw [h4]; omega)]; rfl
  have b4 : lLast c (m + 1 + (k + 1)) = 4 := by
    show lLast c ((m + 1 + k) + 1) = 4
    rw [lLast_succ, h4]
  have o8 : lPast c 8 (m + 1) = m + 1 := lPast_here (by rw [h0]; omega)
  refine ⟨?_, by rw [e, h4]; rfl⟩
  unfold lCut lOver
  dsimp only
  rw [e, h4, hq, p4, p8, b4, o8, lLast_succ, h0]
  rfl

/- Words. -/
theorem wPick_mem {c : List Int} {a : Nat} : ∀ {P : List Nat} {i : Nat}, a ∈ wPick c i P ↔ ∃ k, P[k]? = some a ∧ (i + k = 0 ∨ wCut c (i + k) = true)
  | [], i => by simp [wPick]
  | b :: P, i => by
    rw [wPick, List.mem_append, wPick_mem (P := P)]
    constructor
    · rintro (h | ⟨k, h1, h2⟩)
      · split at h
        · rename_i hc
          simp at h
          exact ⟨0, by simp [h], by simpa using hc⟩
        · simp at h
      · exact ⟨k + 1, by simpa using h1, by rw [show i + (k + 1) = i + 1 + k by omega]; exact h2⟩
    · rintro ⟨k, h1, h2⟩
      cases k with
      | zero =>
        simp at h1; subst h1
        exact .inl (by rw [if_pos (by simpa using h2)]; simp)
      | succ k => exact .inr ⟨k, by simpa using h1, by rw [show i + 1 + k = i + (k + 1) by omega]; exact h2⟩
theorem places_inj (s : ByteArray) {k j : Nat} {x y : Nat × Nat × Nat} (hk : (runesP s)[k]? = some x) (hj : (runesP s)[j]? = some y) (h : x.2.1 = y.2.1) : k = j := by
  have hr := List.pairwise_iff_getElem.1 (runes_rise s)
  obtain ⟨h1, rfl⟩ := List.getElem?_eq_some_iff.1 hk
  obtain ⟨h2, rfl⟩ := List.getElem?_eq_some_iff.1 hj
  rcases Nat.lt_trichotomy k j with hlt | he | hgt
  · have := hr k j h1 h2 hlt; omega
  · exact he
  · have := hr j k h2 h1 hgt; omega
/-- Whether a bound stands ahead of a rune. -/
theorem wBounds_at {g : Int → Nat} {s : ByteArray} {k : Nat} {x : Nat × Nat × Nat} (hx : (runesP s)[k]? = some x) : x.2.1 ∈ wBounds g s ↔ k = 0 ∨ wCut (wCls g s) k = true := by
  have hb := runesP_bd x (List.mem_of_getElem? hx)
  unfold wBounds
  rw [List.mem_append]
  constructor
  · rintro (h | h)
    · obtain ⟨j, h1, h2⟩ := wPick_mem.1 h
      rw [List.getElem?_map] at h1
      obtain ⟨y, hy, e⟩ := Option.map_eq_some_iff.1 h1
      have := places_inj s hx hy e.symm
      subst this
      simpa using h2
    · split at h
      · simp at h
      · simp at h; omega
  · intro h
    exact .inl (wPick_mem.2 ⟨k, by rw [List.getElem?_map, hx]; rfl, by simpa using h⟩)
theorem wReg_run {c : List Int} {m : Nat} (hm : wOf c (wBack c m) ≠ 7) : ∀ (i f : Nat), (∀ j, j < i → c.getD (m + j) 0 = 7) → m + i ≤ c.length → m + i < f → wRegGo c f (m + i) = i
  | _, 0, _, _, h => by omega
  | 0, f + 1, _, _, _ => by rw [wRegGo, Nat.add_zero, if_neg hm]
  | i + 1, f + 1, h, hl, hf => by
    have h7 := h i (by omega)
    have hb : wBack c (m + (i + 1)) = (m + i : Nat) := by
      show wBack c ((m + i) + 1) = _
      exact wBack_here (by rw [h7]; rfl)
    rw [wRegGo, hb, wOf_nat (by omega), h7, if_pos rfl, Int.toNat_natCast, wReg_run hm i f (fun j hj => h j (by omega)) (by omega) (by omega)]
theorem letters_flag (z n : Int) : wLetters z 7 7 n = false := by unfold wLetters; simp [wLet, wInW, wInN, wJoin]
/-- Of a run of flags every second place within is a bound. -/
theorem wCut_flags {c : List Int} {m n i : Nat} (hm : wOf c (wBack c m) ≠ 7) (h : ∀ j, j < n → c.getD (m + j) 0 = 7) (hl : m + n ≤ c.length) (h1 : 1 ≤ i) (hi : i < n) : wCut c (m + i) = (i % 2 == 0) := by
  obtain ⟨k, rfl⟩ : ∃ k, i = k + 1 := ⟨i - 1, by omega⟩
  have hp := h k (by omega)
  have hq := h (k + 1) hi
  have hb : wBack c (m + (k + 1)) = (m + k : Nat) := by
    show wBack c ((m + k) + 1) = _
    exact wBack_here (by rw [hp]; rfl)
  have hr : wReg c (m + (k + 1)) = k + 1 := wReg_run hm (k + 1) _ (fun j hj => h j (by omega)) (by omega) (by omega)
  unfold wCut
  dsimp only
  rw [show m + (k + 1) - 1 = m + k by omega, hp, hq, hb, wOf_nat (by omega), hp, letters_flag, hr]
  rfl
end Go.Proofs.YthlnfefpdmecaaaGreatDoor

