/-
  Several texts in one, in their build order: PrsL, PrsG, PrsD, PrsE, SenP, PrsS, PrsC, Grow, Upper, Repeat, Spell, Join, TrD, Dw, Dl, UtfL.
-/
import Derived.Lib.Builder
import Derived.Lib.FrozenHead2
import Derived.Laws.BitsAllLaws
import Derived.Laws.Bits
import Derived.Lib.SpaceU
import Derived.Test.YtdnkignhenkamaaGreatDoorS1a
import Derived.Test.YtdnkignhenkamaaGreatDoorS0a
import Derived.Test.YtdnkignhenkamaaGreatDoorSShelf
/- -/
namespace Go.Proofs.YtdnkignhenkamaaGreatDoor
abbrev Mtx := Nat → Nat → Bool
def ownM : Mtx := fun i k => decide (i = k)
def noneM : Mtx := fun _ _ => false
def bothM (a b : Mtx) : Mtx := fun i k => a i k || b i k
def behindM (n : Nat) (a b : Mtx) : Mtx := fun i j => (List.range n).any fun k => a i k && b k j
def warS (k i : Nat) (m : Mtx) : Mtx := fun x j => m x j || (decide (x = i) && m i k && m k j)
def warRow (n k : Nat) (m : Mtx) : Mtx := (List.range n).foldl (fun m i => warS k i m) m
def moreM (n : Nat) (a : Mtx) : Mtx := (List.range n).foldl (fun m k => warRow n k m) (bothM a ownM)
def setM (c cs : List Nat) : Mtx := fun i k => decide (k = i + 1) && ((c[i]?).map fun x => cs.contains x).getD false
mutual
def leadsP (c : List Nat) : Pat → Mtx
  | .node op cs ks =>
    if op = 1 then setM c cs
    else if op = 2 then thenP c ks ownM
    else if op = 3 then orP c ks noneM
    else if op = 4 then moreM (c.length + 1) (headP c ks)
    else if op = 5 then behindM (c.length + 1) (headP c ks) (moreM (c.length + 1) (headP c ks))
    else if op = 6 then bothM ownM (headP c ks)
    else ownM
def thenP (c : List Nat) : List Pat → Mtx → Mtx
  | [], m => m
  | p :: r, m => thenP c r (behindM (c.length + 1) m (leadsP c p))
def orP (c : List Nat) : List Pat → Mtx → Mtx
  | [], m => m
  | p :: r, m => orP c r (bothM m (leadsP c p))
def headP (c : List Nat) : List Pat → Mtx
  | [] => ownM
  | p :: _ => leadsP c p
end
theorem warS_eq (k i : Nat) (m : Mtx) (x j : Nat) : warS k i m x j = (m x j || (decide (x = i) && m i k && m k j)) := rfl
theorem warRow_go (k : Nat) (m : Mtx) : ∀ (z : Nat) (x j : Nat), (List.range z).foldl (fun m i => warS k i m) m x j = (m x j || (decide (x < z) && m x k && m k j))
  | 0, x, j => by simp
  | z + 1, x, j => by
    rw [List.range_succ, List.foldl_append, List.foldl_cons, List.foldl_nil, warS_eq, warRow_go k m z x j, warRow_go k m z z k, warRow_go k m z k j]
    have e1 : decide (x < z + 1) = (decide (x < z) || decide (x = z)) := by
      rw [← Bool.decide_or]; congr 1; apply propext; omega
    have e2 : decide (z < z) = false := by simp
    rw [e1, e2]
    by_cases h : x = z
    · subst h
      cases m x j <;> cases m x k <;> cases m k j <;> simp
    · simp [h]
theorem warRow_eq (n k : Nat) (m : Mtx) (x j : Nat) : warRow n k m x j = (m x j || (decide (x < n) && m x k && m k j)) := warRow_go k m n x j
inductive Way (n : Nat) (a : Mtx) : Nat → Nat → Prop
  | here (i : Nat) : Way n a i i
  | on {i k j : Nat} : a i k = true → k < n → Way n a k j → Way n a i j
theorem Way.trans {n : Nat} {a : Mtx} {i k j : Nat} (h : Way n a i k) (g : Way n a k j) : Way n a i j := by
  induction h with
  | here => exact g
  | on h1 h2 _ ih => exact .on h1 h2 (ih g)
inductive WayZ (z : Nat) (a : Mtx) : Nat → Nat → Prop
  | none (i : Nat) : WayZ z a i i
  | one {i j : Nat} : a i j = true → WayZ z a i j
  | on {i k j : Nat} : a i k = true → k < z → WayZ z a k j → WayZ z a i j
theorem WayZ.via {z : Nat} {a : Mtx} {i j : Nat} (h : WayZ (z + 1) a i j) : WayZ z a i j ∨ (WayZ z a i z ∧ WayZ z a z j) := by
  induction h with
  | none i => exact .inl (.none i)
  | one h => exact .inl (.one h)
  | @on i k j h1 h2 _ ih =>
    by_cases hk : k = z
    · subst hk
      rcases ih with ih | ⟨_, ih⟩
      · exact .inr ⟨.one h1, ih⟩
      · exact .inr ⟨.one h1, ih⟩
    · rcases ih with ih | ⟨ih1, ih2⟩
      · exact .inl (.on h1 (by omega) ih)
      · exact .inr ⟨.on h1 (by omega) ih1, ih2⟩
theorem more_go {n : Nat} {a : Mtx} : ∀ (z : Nat), z ≤ n → ∀ (i j : Nat), i < n → j < n →
    ((List.range z).foldl (fun m k => warRow n k m) (bothM a ownM) i j = true → Way n a i j) ∧ (WayZ z a i j → (List.range z).foldl (fun m k => warRow n k m) (bothM a ownM) i j = true)
  | 0, _, i, j, hi, hj => by
    refine ⟨fun h => ?_, fun h => ?_⟩
    · simp only [List.range_zero, List.foldl_nil, bothM, ownM, Bool.or_eq_true, decide_eq_true_eq] at h
      rcases h with h | rfl
      · exact .on h hj (.here _)
      · exact .here _
    · simp only [List.range_zero, List.foldl_nil, bothM, ownM, Bool.or_eq_true, decide_eq_true_eq]
      cases h with
      | none => exact .inr rfl
      | one h => exact .inl h
      | on _ h _ => exact absurd h (Nat.not_lt_zero _)
  | z + 1, hz, i, j, hi, hj => by
    have ih := fun i j hi hj => more_go (n := n) (a := a) z (by omega) i j hi hj
    rw [List.range_succ, List.foldl_append, List.foldl_cons, List.foldl_nil, warRow_eq]
    simp only [Bool.or_eq_true, Bool.and_eq_true, decide_eq_true_eq]
    refine ⟨fun h => ?_, fun h => ?_⟩
    · rcases h with h | ⟨⟨_, h1⟩, h2⟩
      · exact (ih i j hi hj).1 h
      · exact ((ih i z hi (by omega)).1 h1).trans ((ih z j (by omega) hj).1 h2)
    · rcases h.via with h | ⟨h1, h2⟩
      · exact .inl ((ih i j hi hj).2 h)
      · exact .inr ⟨⟨hi, (ih i z hi (by omega)).2 h1⟩, (ih z j (by omega) hj).2 h2⟩
theorem Way.z {n : Nat} {a : Mtx} {i j : Nat} (h : Way n a i j) : WayZ n a i j := by
  induction h with
  | here i => exact .none i
  | on h1 h2 _ ih => exact .on h1 h2 ih
theorem more_iff {n : Nat} {a : Mtx} {i j : Nat} (hi : i < n) (hj : j < n) : moreM n a i j = true ↔ Way n a i j :=
  ⟨(more_go n (Nat.le_refl _) i j hi hj).1, fun h => (more_go n (Nat.le_refl _) i j hi hj).2 h.z⟩
inductive Star (L : List Nat → Prop) : List Nat → Prop
  | nil : Star L []
  | app {u v : List Nat} : L u → Star L v → Star L (u ++ v)
mutual
def Lang : Pat → List Nat → Prop
  | .node op cs ks => fun u =>
    if op = 1 then ∃ x, u = [x] ∧ x ∈ cs
    else if op = 2 then LangT ks u
    else if op = 3 then LangO ks u
    else if op = 4 then Star (LangH ks) u
    else if op = 5 then ∃ v w, u = v ++ w ∧ LangH ks v ∧ Star (LangH ks) w
    else if op = 6 then u = [] ∨ LangH ks u
    else u = []
def LangT : List Pat → List Nat → Prop
  | [] => fun u => u = []
  | p :: r => fun u => ∃ v w, u = v ++ w ∧ Lang p v ∧ LangT r w
def LangO : List Pat → List Nat → Prop
  | [] => fun _ => False
  | p :: r => fun u => Lang p u ∨ LangO r u
def LangH : List Pat → List Nat → Prop
  | [] => fun u => u = []
  | p :: _ => Lang p
end
def part (c : List Nat) (i k : Nat) : List Nat := (c.drop i).take (k - i)
def Tells (c : List Nat) (m : Mtx) (L : List Nat → Prop) : Prop := ∀ i k, i ≤ c.length → k ≤ c.length → (m i k = true ↔ i ≤ k ∧ L (part c i k))
theorem part_app (c : List Nat) {i k j : Nat} (h1 : i ≤ k) (h2 : k ≤ j) : part c i j = part c i k ++ part c k j := by
  unfold part
  rw [show j - i = (k - i) + (j - k) by omega, List.take_add, List.drop_drop, show i + (k - i) = k by omega]
theorem part_len (c : List Nat) {i k : Nat} (h2 : k ≤ c.length) : (part c i k).length = k - i := by
  unfold part; rw [List.length_take, List.length_drop]; omega
theorem part_nil {c : List Nat} {i k : Nat} (h1 : i ≤ k) (h2 : k ≤ c.length) (h : part c i k = []) : i = k := by
  have := part_len c (i := i) h2
  rw [h] at this
  simp at this
  omega
theorem part_split {c : List Nat} {i j : Nat} {u v : List Nat} (h1 : i ≤ j) (h2 : j ≤ c.length) (h : part c i j = u ++ v) : i + u.length ≤ j ∧ part c i (i + u.length) = u ∧ part c (i + u.length) j = v := by
  have hl := congrArg List.length h
  rw [part_len c h2, List.length_append] at hl
  have hk : i + u.length ≤ j := by omega
  have h3 := part_app c (Nat.le_add_right i u.length) hk
  rw [h] at h3
  have h4 := List.append_inj h3 (by rw [part_len c (by omega)]; omega)
  exact ⟨hk, h4.1.symm, h4.2.symm⟩
theorem tells_own (c : List Nat) : Tells c ownM (fun u => u = []) := fun i k _ hk => by
  simp only [ownM, decide_eq_true_eq]
  refine ⟨fun h => ?_, fun h => part_nil h.1 hk h.2⟩
  subst h
  exact ⟨Nat.le_refl _, by simp [part]⟩
theorem tells_none (c : List Nat) : Tells c noneM (fun _ => False) := fun i k _ _ => by simp [noneM]
theorem tells_both {c : List Nat} {a b : Mtx} {L M : List Nat → Prop} (ha : Tells c a L) (hb : Tells c b M) : Tells c (bothM a b) (fun u => L u ∨ M u) := fun i k hi hk => by
  simp only [bothM, Bool.or_eq_true, ha i k hi hk, hb i k hi hk]
  exact ⟨fun h => h.elim (fun h => ⟨h.1, .inl h.2⟩) (fun h => ⟨h.1, .inr h.2⟩), fun h => h.2.elim (fun g => .inl ⟨h.1, g⟩) (fun g => .inr ⟨h.1, g⟩)⟩
theorem tells_behind {c : List Nat} {a b : Mtx} {L M : List Nat → Prop} (ha : Tells c a L) (hb : Tells c b M) : Tells c (behindM (c.length + 1) a b) (fun u => ∃ v w, u = v ++ w ∧ L v ∧ M w) := fun i j hi hj => by
  simp only [behindM, List.any_eq_true, List.mem_range, Bool.and_eq_true]
  constructor
  · rintro ⟨k, hk, h1, h2⟩
    have h1 := (ha i k hi (by omega)).1 h1
    have h2 := (hb k j (by omega) hj).1 h2
    exact ⟨Nat.le_trans h1.1 h2.1, _, _, part_app c h1.1 h2.1, h1.2, h2.2⟩
  · rintro ⟨hij, v, w, h, hv, hw⟩
    obtain ⟨h1, h2, h3⟩ := part_split hij hj h
    exact ⟨i + v.length, by omega, (ha _ _ hi (by omega)).2 ⟨by omega, by rw [h2]; exact hv⟩, (hb _ _ (by omega) hj).2 ⟨h1, by rw [h3]; exact hw⟩⟩
theorem tells_more {c : List Nat} {a : Mtx} {L : List Nat → Prop} (ha : Tells c a L) : Tells c (moreM (c.length + 1) a) (Star L) := fun i j hi hj => by
  rw [more_iff (by omega) (by omega)]
  constructor
  · intro h
    induction h with
    | here i => exact ⟨Nat.le_refl _, by simp only [part, Nat.sub_self, List.take_zero]; exact .nil⟩
    | @on i k j h1 h2 _ ih =>
      have h1 := (ha i k hi (by omega)).1 h1
      have ih := ih (by omega) hj
      exact ⟨Nat.le_trans h1.1 ih.1, by rw [part_app c h1.1 ih.1]; exact .app h1.2 ih.2⟩
  · rintro ⟨hij, h⟩
    generalize hu : part c i j = u at h
    induction h generalizing i with
    | nil => rw [part_nil hij hj hu]; exact .here _
    | @app u v h1 _ ih =>
      obtain ⟨g1, g2, g3⟩ := part_split hij hj hu
      exact .on ((ha _ _ hi (by omega)).2 ⟨by omega, by rw [g2]; exact h1⟩) (by omega) (ih (i + u.length) (by omega) g1 g3)
theorem tells_set (c cs : List Nat) : Tells c (setM c cs) (fun u => ∃ x, u = [x] ∧ x ∈ cs) := fun i k hi hk => by
  simp only [setM, Bool.and_eq_true, decide_eq_true_eq]
  constructor
  · rintro ⟨rfl, h⟩
    cases hx : c[i]? with
    | none => rw [hx] at h; simp at h
    | some x =>
      rw [hx] at h
      refine ⟨by omega, x, ?_, by simpa using h⟩
      have hlt := (List.getElem?_eq_some_iff.1 hx).1
      unfold part
      rw [List.drop_eq_getElem_cons hlt, show i + 1 - i = 0 + 1 by omega, List.take_succ_cons, List.take_zero, (List.getElem?_eq_some_iff.1 hx).2]
  · rintro ⟨hik, x, h, hx⟩
    have hl := congrArg List.length h
    rw [part_len c hk] at hl
    simp at hl
    obtain rfl : k = i + 1 := by omega
    have hlt : i < c.length := by omega
    unfold part at h
    rw [List.drop_eq_getElem_cons hlt, show i + 1 - i = 0 + 1 by omega, List.take_succ_cons, List.take_zero] at h
    injection h with h
    refine ⟨rfl, ?_⟩
    rw [List.getElem?_eq_getElem hlt, h]
    simpa using hx
theorem Tells.congr {c : List Nat} {m : Mtx} {L M : List Nat → Prop} (h : Tells c m L) (hLM : ∀ u, L u ↔ M u) : Tells c m M := fun i k hi hk => by rw [h i k hi hk, hLM]
mutual
theorem leads_tells (c : List Nat) : ∀ (p : Pat), Tells c (leadsP c p) (Lang p)
  | .node op cs ks => by
    unfold leadsP Lang
    by_cases h1 : op = 1
    · rw [if_pos h1]; simp only [if_pos h1]; exact tells_set c cs
    by_cases h2 : op = 2
    · rw [if_neg h1, if_pos h2]; simp only [if_neg h1, if_pos h2]
      exact (thenP_tells c ks (tells_own c)).congr fun u => ⟨fun ⟨v, w, e, hv, hw⟩ => by subst hv; rw [e]; exact hw, fun h => ⟨[], u, rfl, rfl, h⟩⟩
    by_cases h3 : op = 3
    · rw [if_neg h1, if_neg h2, if_pos h3]; simp only [if_neg h1, if_neg h2, if_pos h3]
      exact (orP_tells c ks (tells_none c)).congr fun u => ⟨fun h => h.elim False.elim id, .inr⟩
    by_cases h4 : op = 4
    · rw [if_neg h1, if_neg h2, if_neg h3, if_pos h4]; simp only [if_neg h1, if_neg h2, if_neg h3, if_pos h4]
      exact tells_more (headP_tells c ks)
    by_cases h5 : op = 5
    · rw [if_neg h1, if_neg h2, if_neg h3, if_neg h4, if_pos h5]; simp only [if_neg h1, if_neg h2, if_neg h3, if_neg h4, if_pos h5]
      exact tells_behind (headP_tells c ks) (tells_more (headP_tells c ks))
    by_cases h6 : op = 6
    · rw [if_neg h1, if_neg h2, if_neg h3, if_neg h4, if_neg h5, if_pos h6]; simp only [if_neg h1, if_neg h2, if_neg h3, if_neg h4, if_neg h5, if_pos h6]
      exact tells_both (tells_own c) (headP_tells c ks)
    rw [if_neg h1, if_neg h2, if_neg h3, if_neg h4, if_neg h5, if_neg h6]; simp only [if_neg h1, if_neg h2, if_neg h3, if_neg h4, if_neg h5, if_neg h6]
    exact tells_own c
theorem thenP_tells (c : List Nat) : ∀ (ks : List Pat) {m : Mtx} {L : List Nat → Prop}, Tells c m L → Tells c (thenP c ks m) (fun u => ∃ v w, u = v ++ w ∧ L v ∧ LangT ks w)
  | [], m, L, h => by
    unfold thenP LangT
    exact h.congr fun u => ⟨fun hu => ⟨u, [], by simp, hu, rfl⟩, fun ⟨v, w, e, hv, hw⟩ => by subst hw; rw [e, List.append_nil]; exact hv⟩
  | p :: r, m, L, h => by
    unfold thenP LangT
    refine (thenP_tells c r (tells_behind h (leads_tells c p))).congr fun u => ⟨?_, ?_⟩
    · rintro ⟨_, w, rfl, ⟨v1, v2, rfl, h1, h2⟩, h3⟩
      exact ⟨v1, v2 ++ w, by simp, h1, v2, w, rfl, h2, h3⟩
    · rintro ⟨v1, _, rfl, h1, v2, w, rfl, h2, h3⟩
      exact ⟨v1 ++ v2, w, by simp, ⟨v1, v2, rfl, h1, h2⟩, h3⟩
theorem orP_tells (c : List Nat) : ∀ (ks : List Pat) {m : Mtx} {L : List Nat → Prop}, Tells c m L → Tells c (orP c ks m) (fun u => L u ∨ LangO ks u)
  | [], m, L, h => by
    unfold orP LangO
    exact h.congr fun u => ⟨.inl, fun h => h.elim id False.elim⟩
  | p :: r, m, L, h => by
    unfold orP LangO
    refine (orP_tells c r (tells_both h (leads_tells c p))).congr fun u => ⟨?_, ?_⟩
    · rintro ((h | h) | h)
      · exact .inl h
      · exact .inr (.inl h)
      · exact .inr (.inr h)
    · rintro (h | h | h)
      · exact .inl (.inl h)
      · exact .inl (.inr h)
      · exact .inr h
theorem headP_tells (c : List Nat) : ∀ (ks : List Pat), Tells c (headP c ks) (LangH ks)
  | [] => by unfold headP LangH; exact tells_own c
  | p :: _ => by unfold headP LangH; exact leads_tells c p
end
end Go.Proofs.YtdnkignhenkamaaGreatDoor

/- -/
namespace Go.Proofs.YtdnkignhenkamaaGreatDoor
def Ahead (start : Bool) (L : List Nat → Prop) (a : List Nat) : Prop := ∃ u v, a = u ++ v ∧ (start = true → u = []) ∧ L v
def Behind (stop : Bool) (L : List Nat → Prop) (b : List Nat) : Prop := ∃ u v, b = u ++ v ∧ (stop = true → v = []) ∧ L u
def AppliesL (r : RuleP) (a b : List Nat) : Prop := Ahead r.start (Lang r.left) a ∧ Behind r.stop (Lang r.right) b
def One (cs : List Nat) (u : List Nat) : Prop := ∃ x, u = [x] ∧ x ∈ cs
theorem lang_set (cs : List Nat) (ks : List Pat) (u : List Nat) : Lang (.node 1 cs ks) u ↔ One cs u := by simp [Lang, One]
theorem lang_empty (cs : List Nat) (ks : List Pat) (u : List Nat) : Lang (.node 0 cs ks) u ↔ u = [] := by simp [Lang]
theorem lang_or (cs : List Nat) (ks : List Pat) (u : List Nat) : Lang (.node 3 cs ks) u ↔ LangO ks u := by simp [Lang]
theorem lang_then (cs : List Nat) (ks : List Pat) (u : List Nat) : Lang (.node 2 cs ks) u ↔ LangT ks u := by simp [Lang]
theorem lang_many (cs : List Nat) (p : Pat) (ks : List Pat) (u : List Nat) : Lang (.node 4 cs (p :: ks)) u ↔ Star (Lang p) u := by simp [Lang, LangH]
theorem lang_may (cs : List Nat) (p : Pat) (ks : List Pat) (u : List Nat) : Lang (.node 6 cs (p :: ks)) u ↔ (u = [] ∨ Lang p u) := by simp [Lang, LangH]
theorem langO_sets : ∀ (l : List (List Nat)) (u : List Nat), LangO (l.map fun c => .node 1 c []) u ↔ One l.flatten u
  | [], u => by simp [LangO, One]
  | c :: r, u => by
    rw [List.map_cons, LangO]
    show (Lang (.node 1 c []) u ∨ LangO (r.map fun c => .node 1 c []) u) ↔ _
    rw [langO_sets r u, lang_set]
    unfold One
    rw [List.flatten_cons]
    constructor
    · rintro (⟨x, e, h⟩ | ⟨x, e, h⟩)
      · exact ⟨x, e, List.mem_append.2 (.inl h)⟩
      · exact ⟨x, e, List.mem_append.2 (.inr h)⟩
    · rintro ⟨x, e, h⟩
      rcases List.mem_append.1 h with h | h
      · exact .inl ⟨x, e, h⟩
      · exact .inr ⟨x, e, h⟩
theorem Ahead.congr {s : Bool} {L M : List Nat → Prop} (h : ∀ u, L u ↔ M u) (a : List Nat) : Ahead s L a ↔ Ahead s M a :=
  ⟨fun ⟨u, v, e, hs, hl⟩ => ⟨u, v, e, hs, (h v).1 hl⟩, fun ⟨u, v, e, hs, hl⟩ => ⟨u, v, e, hs, (h v).2 hl⟩⟩
theorem Behind.congr {s : Bool} {L M : List Nat → Prop} (h : ∀ u, L u ↔ M u) (a : List Nat) : Behind s L a ↔ Behind s M a :=
  ⟨fun ⟨u, v, e, hs, hl⟩ => ⟨u, v, e, hs, (h u).1 hl⟩, fun ⟨u, v, e, hs, hl⟩ => ⟨u, v, e, hs, (h u).2 hl⟩⟩
theorem star_congr {L M : List Nat → Prop} (h : ∀ u, L u ↔ M u) (u : List Nat) : Star L u ↔ Star M u := by
  constructor
  · intro g
    induction g with
    | nil => exact .nil
    | app h1 _ ih => exact .app ((h _).1 h1) ih
  · intro g
    induction g with
    | nil => exact .nil
    | app h1 _ ih => exact .app ((h _).2 h1) ih
def setQ (c : Nat) : Pat := .node 1 [c] []
theorem lang_alt (l : List Nat) (u : List Nat) : Lang (.node 3 [] (l.map setQ)) u ↔ One l u := by
  have h := langO_sets (l.map fun c => [c]) u
  rw [List.map_map] at h
  have e : ∀ l : List Nat, (l.map fun c => [c]).flatten = l := fun l => by
    induction l with
    | nil => rfl
    | cons a r ih => rw [List.map_cons, List.flatten_cons, ih]; rfl
  rw [e] at h
  rw [lang_or]
  exact h
end Go.Proofs.YtdnkignhenkamaaGreatDoor

/- -/
namespace Go.Proofs.YtdnkignhenkamaaGreatDoor
def startsB (p : Pat) (c : List Nat) : List Nat := (List.range (c.length + 1)).filter fun i => leadsP c p i c.length
def endsB (p : Pat) (c : List Nat) : List Nat := (List.range (c.length + 1)).filter fun i => leadsP c p 0 i
def appliesB (r : RuleP) (c : List Nat) (at_ : Nat) : Bool :=
  !(startsB r.left (c.take at_)).isEmpty && !(endsB r.right (c.drop at_)).isEmpty && (!r.start || (startsB r.left (c.take at_)).contains 0) && (!r.stop || (endsB r.right (c.drop at_)).contains (c.length - at_))
theorem mem_starts {p : Pat} {c : List Nat} {i : Nat} : i ∈ startsB p c ↔ i ≤ c.length ∧ Lang p (c.drop i) := by
  unfold startsB
  rw [List.mem_filter, List.mem_range]
  constructor
  · rintro ⟨h1, h2⟩
    have := ((leads_tells c p) i c.length (by omega) (Nat.le_refl _)).1 h2
    refine ⟨by omega, ?_⟩
    have h3 := this.2
    unfold part at h3
    rwa [List.take_of_length_le (by rw [List.length_drop]; omega)] at h3
  · rintro ⟨h1, h2⟩
    refine ⟨by omega, ((leads_tells c p) i c.length h1 (Nat.le_refl _)).2 ⟨h1, ?_⟩⟩
    unfold part
    rwa [List.take_of_length_le (by rw [List.length_drop]; omega)]
theorem mem_ends {p : Pat} {c : List Nat} {i : Nat} : i ∈ endsB p c ↔ i ≤ c.length ∧ Lang p (c.take i) := by
  unfold endsB
  rw [List.mem_filter, List.mem_range]
  constructor
  · rintro ⟨h1, h2⟩
    have := ((leads_tells c p) 0 i (Nat.zero_le _) (by omega)).1 h2
    refine ⟨by omega, ?_⟩
    have h3 := this.2
    unfold part at h3
    simpa using h3
  · rintro ⟨h1, h2⟩
    refine ⟨by omega, ((leads_tells c p) 0 i (Nat.zero_le _) h1).2 ⟨Nat.zero_le _, ?_⟩⟩
    unfold part
    simpa using h2
theorem ahead_iff {p : Pat} {c : List Nat} {s : Bool} : Ahead s (Lang p) c ↔ ∃ i ∈ startsB p c, s = true → i = 0 := by
  constructor
  · rintro ⟨u, v, rfl, hs, hl⟩
    refine ⟨u.length, mem_starts.2 ⟨by simp, by simpa using hl⟩, fun h => by rw [hs h]; rfl⟩
  · rintro ⟨i, hi, hs⟩
    obtain ⟨h1, h2⟩ := mem_starts.1 hi
    exact ⟨c.take i, c.drop i, (List.take_append_drop i c).symm, fun h => by rw [hs h]; rfl, h2⟩
theorem behind_iff {p : Pat} {c : List Nat} {s : Bool} : Behind s (Lang p) c ↔ ∃ i ∈ endsB p c, s = true → i = c.length := by
  constructor
  · rintro ⟨u, v, rfl, hs, hl⟩
    refine ⟨u.length, mem_ends.2 ⟨by simp, by simpa using hl⟩, fun h => by rw [hs h]; simp⟩
  · rintro ⟨i, hi, hs⟩
    obtain ⟨h1, h2⟩ := mem_ends.1 hi
    exact ⟨c.take i, c.drop i, (List.take_append_drop i c).symm, fun h => by rw [hs h]; simp, h2⟩
theorem applies_iff (r : RuleP) (c : List Nat) {at_ : Nat} : appliesB r c at_ = true ↔ AppliesL r (c.take at_) (c.drop at_) := by
  unfold AppliesL appliesB
  rw [ahead_iff, behind_iff, List.length_drop]
  have key : ∀ (l : List Nat) (b : Bool) (z : Nat), (∃ i ∈ l, b = true → i = z) ↔ (!l.isEmpty && (!b || l.contains z)) = true := fun l b z => by
    cases b with
    | false =>
      cases l with
      | nil => simp
      | cons a r => simp
    | true =>
      simp only [forall_const, Bool.not_true, Bool.false_or, Bool.and_eq_true, List.contains_iff_mem]
      constructor
      · rintro ⟨i, hi, rfl⟩
        exact ⟨by cases l with | nil => cases hi | cons => rfl, hi⟩
      · rintro ⟨_, hi⟩
        exact ⟨z, hi, rfl⟩
  rw [key, key]
  simp only [Bool.and_eq_true]
  exact ⟨fun ⟨⟨⟨a, b⟩, c⟩, d⟩ => ⟨⟨a, c⟩, ⟨b, d⟩⟩, fun ⟨⟨a, c⟩, ⟨b, d⟩⟩ => ⟨⟨⟨a, b⟩, c⟩, d⟩⟩
def decideB (rest : Bool) (c : List Nat) (at_ : Nat) : List RuleP → Bool
  | [] => rest
  | r :: l => if appliesB r c at_ then r.cut else decideB rest c at_ l
def placeB (rs : List RuleP) (rest : Bool) (c : List Nat) (at_ : Nat) : Bool := decide (at_ = 0) || decide (at_ = c.length) || decideB rest c at_ rs
def boundsB (rs : List RuleP) (rest : Bool) (c : List Nat) : List Nat := if c = [] then [] else (List.range (c.length + 1)).filter fun i => placeB rs rest c i
def edgesP (s : ByteArray) : List Nat := (runesP s).map (fun x => x.2.1) ++ [s.size]
def boundsR (rs : List RuleP) (rest : Bool) (g : Int → Nat) (s : ByteArray) : List Nat := if s.size = 0 then [] else (boundsB rs rest (clsG g (runesP s))).map fun i => (edgesP s).getD i 0
theorem pick_filter : ∀ (n : Nat) (r : List (Nat × Nat × Nat)) (t : List Bool), r.length = n → t.length = n → pickG r t = ((List.range n).filter fun i => t.getD i false).map fun i => (r.map fun x => x.2.1).getD i 0
  | 0, r, t, hr, ht => by
    obtain rfl := List.eq_nil_of_length_eq_zero hr
    obtain rfl := List.eq_nil_of_length_eq_zero ht
    rfl
  | n + 1, r, t, hr, ht => by
    rcases List.eq_nil_or_concat r with rfl | ⟨r', x, rfl⟩
    · simp at hr
    rcases List.eq_nil_or_concat t with rfl | ⟨t', b, rfl⟩
    · simp at ht
    simp only [List.concat_eq_append, List.length_append, List.length_singleton, Nat.add_right_cancel_iff] at hr ht ⊢
    rw [pickG_snoc r' t' x b (by omega), pick_filter n r' t' hr ht, List.range_succ, List.filter_append, List.map_append]
    have e1 : (List.range n).filter (fun i => (t' ++ [b]).getD i false) = (List.range n).filter (fun i => t'.getD i false) := by
      refine List.filter_congr fun i hi => ?_
      rw [List.mem_range] at hi
      rw [List.getD_eq_getElem?_getD, List.getD_eq_getElem?_getD, List.getElem?_append_left (by omega)]
    have e2 : ((List.range n).filter (fun i => t'.getD i false)).map (fun i => ((r' ++ [x]).map fun x => x.2.1).getD i 0) = ((List.range n).filter (fun i => t'.getD i false)).map fun i => (r'.map fun x => x.2.1).getD i 0 := by
      refine List.map_congr_left fun i hi => ?_
      have hi := (List.mem_filter.1 hi).1
      rw [List.mem_range] at hi
      rw [List.getD_eq_getElem?_getD, List.getD_eq_getElem?_getD, List.map_append, List.getElem?_append_left (by rw [List.length_map]; omega)]
    rw [e1, e2]
    congr 1
    have e3 : (t' ++ [b]).getD n false = b := by rw [List.getD_eq_getElem?_getD, List.getElem?_append_right (by omega), ht, Nat.sub_self]; rfl
    have e4 : ((r' ++ [x]).map fun x => x.2.1).getD n 0 = x.2.1 := by rw [List.getD_eq_getElem?_getD, List.map_append, List.getElem?_append_right (by rw [List.length_map]; omega), List.length_map, hr, Nat.sub_self]; rfl
    cases b with
    | true => simp only [List.filter_cons, List.filter_nil, e3, if_true, List.map_cons, List.map_nil, e4]
    | false => simp only [List.filter_cons, List.filter_nil, e3, if_false, Bool.false_eq_true, List.map_nil]
end Go.Proofs.YtdnkignhenkamaaGreatDoor

/- -/
namespace Go.Proofs.YtdnkignhenkamaaGreatDoor
inductive El where
  | one (cs : List Nat)
  | many (cs : List Nat)
  | may (cs : List Nat)
def elL : El → List Nat → Prop
  | .one cs, u => One cs u
  | .many cs, u => ∀ x ∈ u, x ∈ cs
  | .may cs, u => u = [] ∨ One cs u
def elsL : List El → List Nat → Prop
  | [], u => u = []
  | e :: es, u => ∃ v w, u = v ++ w ∧ elL e v ∧ elsL es w
def eat : List El → List Nat → Bool
  | [], _ => true
  | .one _ :: _, [] => false
  | .one cs :: es, x :: r => cs.contains x && eat es r
  | .many cs :: es, r => eat es (r.dropWhile fun x => cs.contains x)
  | .may _ :: es, [] => eat es []
  | .may cs :: es, x :: r => if cs.contains x then eat es r else eat es (x :: r)
def skips : List El → Nat → Bool
  | [], _ => true
  | .one cs :: _, x => !cs.contains x
  | .many cs :: es, x => cs.contains x || skips es x
  | .may cs :: es, x => cs.contains x || skips es x
def okE : List El → Bool
  | [] => true
  | .one _ :: es => okE es
  | .many cs :: es => cs.all (skips es) && okE es
  | .may cs :: es => cs.all (skips es) && okE es
theorem drop_grow {cs : List Nat} {K : List Nat → Bool} (h : ∀ x r, x ∈ cs → K (x :: r) = true → K r = true) : ∀ r, K r = true → K (r.dropWhile fun x => cs.contains x) = true
  | [], hk => hk
  | x :: r, hk => by
    rw [List.dropWhile_cons]
    split
    · rename_i hx
      exact drop_grow h r (h x r (by simpa using hx) hk)
    · exact hk
theorem may_grow {cs : List Nat} {es : List El} (h : ∀ x r, x ∈ cs → eat es (x :: r) = true → eat es r = true) : ∀ r, eat es r = true → eat (.may cs :: es) r = true
  | [], hk => by rw [eat]; exact hk
  | x :: r, hk => by
    rw [eat]
    split
    · rename_i hx
      exact h x r (by simpa using hx) hk
    · exact hk
theorem skip_ok : ∀ (es : List El), okE es = true → ∀ x r, skips es x = true → eat es (x :: r) = true → eat es r = true
  | [], _, _, _, _, _ => by rw [eat]
  | .one cs :: es, _, x, r, hs, he => by
    rw [eat] at he
    rw [skips] at hs
    rw [Bool.not_eq_true'] at hs
    rw [hs] at he
    cases he
  | .many cs :: es, ho, x, r, hs, he => by
    rw [okE, Bool.and_eq_true, List.all_eq_true] at ho
    rw [skips] at hs
    rw [eat] at he ⊢
    rw [List.dropWhile_cons] at he
    cases hx : cs.contains x with
    | true => rw [if_pos hx] at he; exact he
    | false =>
      rw [if_neg (by rw [hx]; simp)] at he
      rw [hx, Bool.false_or] at hs
      exact drop_grow (fun y r hy hk => skip_ok es ho.2 y r (ho.1 y hy) hk) r (skip_ok es ho.2 x r hs he)
  | .may cs :: es, ho, x, r, hs, he => by
    rw [okE, Bool.and_eq_true, List.all_eq_true] at ho
    rw [skips] at hs
    rw [eat] at he
    have hg := may_grow (cs := cs) (es := es) (fun y r hy hk => skip_ok es ho.2 y r (ho.1 y hy) hk)
    cases hx : cs.contains x with
    | true => rw [if_pos hx] at he; exact hg r he
    | false =>
      rw [if_neg (by rw [hx]; simp)] at he
      rw [hx, Bool.false_or] at hs
      exact hg r (skip_ok es ho.2 x r hs he)
theorem drop_run {cs : List Nat} : ∀ (v r : List Nat), (∀ x ∈ v, x ∈ cs) → ((v ++ r).dropWhile fun x => cs.contains x) = r.dropWhile fun x => cs.contains x
  | [], _, _ => rfl
  | x :: v, r, h => by
    rw [List.cons_append, List.dropWhile_cons, if_pos (by simpa using h x (by simp))]
    exact drop_run v r fun y hy => h y (List.mem_cons_of_mem _ hy)
theorem take_in (cs : List Nat) : ∀ (r : List Nat), ∀ x ∈ r.takeWhile (fun x => cs.contains x), x ∈ cs
  | [], x, h => by simp at h
  | y :: r, x, h => by
    rw [List.takeWhile_cons] at h
    split at h
    · rename_i hy
      rcases List.mem_cons.1 h with rfl | h
      · simpa using hy
      · exact take_in cs r x h
    · simp at h
theorem eat_iff : ∀ (es : List El), okE es = true → ∀ r, eat es r = true ↔ ∃ v u, r = v ++ u ∧ elsL es v
  | [], _, r => by rw [eat]; exact ⟨fun _ => ⟨[], r, rfl, rfl⟩, fun _ => rfl⟩
  | .one cs :: es, ho, r => by
    rw [okE] at ho
    constructor
    · intro h
      cases r with
      | nil => rw [eat] at h; cases h
      | cons x r =>
        rw [eat, Bool.and_eq_true] at h
        obtain ⟨v, u, rfl, hv⟩ := (eat_iff es ho r).1 h.2
        exact ⟨x :: v, u, rfl, [x], v, rfl, ⟨x, rfl, by simpa using h.1⟩, hv⟩
    · rintro ⟨_, u, rfl, _, v, rfl, ⟨x, rfl, hx⟩, hv⟩
      rw [List.append_assoc, List.singleton_append, eat, Bool.and_eq_true]
      exact ⟨by simpa using hx, (eat_iff es ho _).2 ⟨v, u, rfl, hv⟩⟩
  | .many cs :: es, ho, r => by
    rw [okE, Bool.and_eq_true, List.all_eq_true] at ho
    rw [eat]
    constructor
    · intro h
      obtain ⟨v, u, e, hv⟩ := (eat_iff es ho.2 _).1 h
      refine ⟨r.takeWhile (fun x => cs.contains x) ++ v, u, ?_, _, v, rfl, take_in cs r, hv⟩
      rw [List.append_assoc, ← e, List.takeWhile_append_dropWhile]
    · rintro ⟨_, u, rfl, w, v, rfl, hw, hv⟩
      rw [List.append_assoc, drop_run w _ hw]
      exact drop_grow (fun y r hy hk => skip_ok es ho.2 y r (ho.1 y hy) hk) _ ((eat_iff es ho.2 _).2 ⟨v, u, rfl, hv⟩)
  | .may cs :: es, ho, r => by
    rw [okE, Bool.and_eq_true, List.all_eq_true] at ho
    constructor
    · intro h
      cases r with
      | nil =>
        rw [eat] at h
        obtain ⟨v, u, e, hv⟩ := (eat_iff es ho.2 _).1 h
        exact ⟨v, u, e, [], v, rfl, .inl rfl, hv⟩
      | cons x r =>
        rw [eat] at h
        split at h
        · rename_i hx
          obtain ⟨v, u, rfl, hv⟩ := (eat_iff es ho.2 _).1 h
          exact ⟨x :: v, u, rfl, [x], v, rfl, .inr ⟨x, rfl, by simpa using hx⟩, hv⟩
        · obtain ⟨v, u, e, hv⟩ := (eat_iff es ho.2 _).1 h
          exact ⟨v, u, e, [], v, rfl, .inl rfl, hv⟩
    · rintro ⟨_, u, rfl, _, v, rfl, rfl | ⟨x, rfl, hx⟩, hv⟩
      · rw [List.nil_append]
        exact may_grow (fun y r hy hk => skip_ok es ho.2 y r (ho.1 y hy) hk) _ ((eat_iff es ho.2 _).2 ⟨v, u, rfl, hv⟩)
      · rw [List.append_assoc, List.singleton_append, eat, if_pos (by simpa using hx)]
        exact (eat_iff es ho.2 _).2 ⟨v, u, rfl, hv⟩
theorem els_app : ∀ (a b : List El) (u : List Nat), elsL (a ++ b) u ↔ ∃ v w, u = v ++ w ∧ elsL a v ∧ elsL b w
  | [], b, u => by
    constructor
    · intro h; exact ⟨[], u, rfl, rfl, h⟩
    · rintro ⟨_, w, rfl, rfl, h⟩; exact h
  | e :: a, b, u => by
    rw [List.cons_append, elsL]
    constructor
    · rintro ⟨v, w, rfl, hv, hw⟩
      obtain ⟨x, y, rfl, hx, hy⟩ := (els_app a b w).1 hw
      exact ⟨v ++ x, y, by rw [List.append_assoc], ⟨v, x, rfl, hv, hx⟩, hy⟩
    · rintro ⟨_, w, rfl, ⟨v, x, rfl, hv, hx⟩, hw⟩
      exact ⟨v, x ++ w, by rw [List.append_assoc], hv, (els_app a b _).2 ⟨x, w, rfl, hx, hw⟩⟩
theorem el_rev (e : El) (u : List Nat) : elL e u.reverse ↔ elL e u := by
  cases e with
  | one cs => simp only [elL, One, List.reverse_eq_iff, List.reverse_singleton]
  | many cs => simp [elL]
  | may cs => simp only [elL, One, List.reverse_eq_iff, List.reverse_singleton, List.reverse_nil]
theorem els_rev : ∀ (es : List El) (u : List Nat), elsL es.reverse u.reverse ↔ elsL es u
  | [], u => by simp [elsL]
  | e :: es, u => by
    rw [List.reverse_cons, els_app]
    constructor
    · rintro ⟨v, w, h, hv, x, y, rfl, hx, rfl⟩
      rw [List.append_nil] at h
      have h2 : u = x.reverse ++ v.reverse := by rw [← List.reverse_append, ← h, List.reverse_reverse]
      exact ⟨x.reverse, v.reverse, h2, (el_rev e x).2 hx, (els_rev es v.reverse).1 (by rw [List.reverse_reverse]; exact hv)⟩
    · rintro ⟨v, w, rfl, hv, hw⟩
      exact ⟨w.reverse, v.reverse, by rw [List.reverse_append], (els_rev es w).2 hw, v.reverse, [], by simp, (el_rev e v).2 hv, rfl⟩
theorem ahead_els {es : List El} (ho : okE es.reverse = true) (a : List Nat) : Ahead false (elsL es) a ↔ eat es.reverse a.reverse = true := by
  rw [eat_iff _ ho]
  constructor
  · rintro ⟨u, v, rfl, _, hv⟩
    exact ⟨v.reverse, u.reverse, by rw [List.reverse_append], (els_rev es v).2 hv⟩
  · rintro ⟨v, u, h, hv⟩
    refine ⟨u.reverse, v.reverse, by rw [← List.reverse_append, ← h, List.reverse_reverse], (fun h => by cases h), (els_rev es v.reverse).1 (by rw [List.reverse_reverse]; exact hv)⟩
theorem behind_els {es : List El} (ho : okE es = true) (b : List Nat) : Behind false (elsL es) b ↔ eat es b = true := by
  rw [eat_iff _ ho]
  exact ⟨fun ⟨u, v, e, _, h⟩ => ⟨u, v, e, h⟩, fun ⟨u, v, e, h⟩ => ⟨u, v, e, (fun h => by cases h), h⟩⟩
def oneP : Pat → Option (List Nat)
  | .node 1 cs _ => some cs
  | _ => none
def onesP : List Pat → Option (List Nat)
  | [] => some []
  | p :: r => match oneP p, onesP r with
    | some a, some b => some (a ++ b)
    | _, _ => none
def setP1 : Pat → Option (List Nat)
  | .node 1 cs _ => some cs
  | .node 3 _ ks => onesP ks
  | _ => none
def elP : Pat → Option El
  | .node 4 _ [p] => (setP1 p).map .many
  | .node 6 _ [p] => (setP1 p).map .may
  | p => (setP1 p).map .one
def elsP1 : List Pat → Option (List El)
  | [] => some []
  | p :: r => match elP p, elsP1 r with
    | some a, some b => some (a :: b)
    | _, _ => none
def elsP : Pat → Option (List El)
  | .node 0 _ _ => some []
  | .node 2 _ ks => elsP1 ks
  | p => (elP p).map fun e => [e]
theorem oneP_ok {p : Pat} {cs : List Nat} (h : oneP p = some cs) (u : List Nat) : Lang p u ↔ One cs u := by
  unfold oneP at h
  split at h
  · injection h with h; subst h; exact lang_set _ _ u
  · cases h
theorem onesP_ok : ∀ {l : List Pat} {cs : List Nat}, onesP l = some cs → ∀ u, LangO l u ↔ One cs u
  | [], cs, h, u => by
    rw [onesP] at h; injection h with h; subst h
    simp [LangO, One]
  | p :: r, cs, h, u => by
    rw [onesP] at h
    split at h
    · rename_i a b ha hb
      injection h with h; subst h
      rw [LangO]
      show (Lang p u ∨ LangO r u) ↔ _
      rw [oneP_ok ha, onesP_ok hb]
      unfold One
      constructor
      · rintro (⟨x, e, h⟩ | ⟨x, e, h⟩)
        · exact ⟨x, e, List.mem_append.2 (.inl h)⟩
        · exact ⟨x, e, List.mem_append.2 (.inr h)⟩
      · rintro ⟨x, e, h⟩
        rcases List.mem_append.1 h with h | h
        · exact .inl ⟨x, e, h⟩
        · exact .inr ⟨x, e, h⟩
    · cases h
theorem setP1_ok {p : Pat} {cs : List Nat} (h : setP1 p = some cs) (u : List Nat) : Lang p u ↔ One cs u := by
  unfold setP1 at h
  split at h
  · injection h with h; subst h; exact lang_set _ _ u
  · rw [lang_or]; exact onesP_ok h u
  · cases h
theorem star_set (cs : List Nat) (u : List Nat) : Star (One cs) u ↔ ∀ x ∈ u, x ∈ cs := by
  constructor
  · intro h
    induction h with
    | nil => simp
    | app h1 _ ih =>
      obtain ⟨x, rfl, hx⟩ := h1
      intro y hy
      rcases List.mem_cons.1 hy with rfl | hy
      · exact hx
      · exact ih y hy
  · intro h
    induction u with
    | nil => exact .nil
    | cons x u ih => exact .app (u := [x]) ⟨x, rfl, h x (by simp)⟩ (ih fun y hy => h y (List.mem_cons_of_mem _ hy))
theorem elP_ok {p : Pat} {e : El} (h : elP p = some e) (u : List Nat) : Lang p u ↔ elL e u := by
  unfold elP at h
  split at h
  · obtain ⟨cs, h1, rfl⟩ := Option.map_eq_some_iff.1 h
    rw [lang_many, elL, ← star_set]
    exact star_congr (setP1_ok h1) u
  · obtain ⟨cs, h1, rfl⟩ := Option.map_eq_some_iff.1 h
    rw [lang_may, elL, setP1_ok h1]
  · obtain ⟨cs, h1, rfl⟩ := Option.map_eq_some_iff.1 h
    rw [elL, setP1_ok h1]
theorem elsP1_ok : ∀ {l : List Pat} {es : List El}, elsP1 l = some es → ∀ u, LangT l u ↔ elsL es u
  | [], es, h, u => by rw [elsP1] at h; injection h with h; subst h; simp [LangT, elsL]
  | p :: r, es, h, u => by
    rw [elsP1] at h
    split at h
    · rename_i a b ha hb
      injection h with h; subst h
      rw [LangT, elsL]
      constructor
      · rintro ⟨v, w, e, h1, h2⟩
        exact ⟨v, w, e, (elP_ok ha v).1 h1, (elsP1_ok hb w).1 h2⟩
      · rintro ⟨v, w, e, h1, h2⟩
        exact ⟨v, w, e, (elP_ok ha v).2 h1, (elsP1_ok hb w).2 h2⟩
    · cases h
theorem elsP_ok {p : Pat} {es : List El} (h : elsP p = some es) (u : List Nat) : Lang p u ↔ elsL es u := by
  unfold elsP at h
  split at h
  · injection h with h; subst h; rw [lang_empty]; rfl
  · rw [lang_then]; exact elsP1_ok h u
  · obtain ⟨e, h1, rfl⟩ := Option.map_eq_some_iff.1 h
    rw [elsL, elP_ok h1]
    constructor
    · intro h; exact ⟨u, [], by simp, h, rfl⟩
    · rintro ⟨v, _, rfl, h, rfl⟩; rw [List.append_nil]; exact h
structure RB where
  cut : Bool
  f : List Nat → Bool
  g : List Nat → Bool
structure Eats (r : RuleP) (x : RB) : Prop where
  cut : r.cut = x.cut
  left : ∀ a, Ahead r.start (Lang r.left) a ↔ x.f a.reverse = true
  right : ∀ b, Behind r.stop (Lang r.right) b ↔ x.g b = true
inductive EatsL : List RuleP → List RB → Prop
  | nil : EatsL [] []
  | cons {r : RuleP} {x : RB} {l : List RuleP} {m : List RB} : Eats r x → EatsL l m → EatsL (r :: l) (x :: m)
def decF (rest : Bool) (r b : List Nat) : List RB → Bool
  | [] => rest
  | x :: l => if x.f r && x.g b then x.cut else decF rest r b l
theorem decide_F (rest : Bool) (c : List Nat) (i : Nat) {l : List RuleP} {m : List RB} (h : EatsL l m) : decideB rest c i l = decF rest (c.take i).reverse (c.drop i) m := by
  induction h with
  | nil => rfl
  | @cons r x l m h1 _ ih =>
    have e : appliesB r c i = (x.f (c.take i).reverse && x.g (c.drop i)) := by
      rw [Bool.eq_iff_iff, applies_iff, Bool.and_eq_true]
      exact and_congr (h1.left _) (h1.right _)
    rw [decideB, decF, e, h1.cut, ih]
theorem Eats.els {r : RuleP} {cut : Bool} {es fs : List El} (hc : r.cut = cut) (hs : r.start = false) (ht : r.stop = false) (h1 : ∀ u, Lang r.left u ↔ elsL es.reverse u) (h2 : ∀ u, Lang r.right u ↔ elsL fs u) (o1 : okE es = true) (o2 : okE fs = true) : Eats r ⟨cut, eat es, eat fs⟩ :=
  ⟨hc, fun a => by
    rw [hs]
    have := ahead_els (es := es.reverse) (by rw [List.reverse_reverse]; exact o1) a
    rw [List.reverse_reverse] at this
    exact (Ahead.congr h1 a).trans this, fun b => by rw [ht]; exact (Behind.congr h2 b).trans (behind_els o2 b)⟩
theorem Eats.pat {cut : Bool} {p q : Pat} {es fs : List El} (h1 : elsP p = some es.reverse) (h2 : elsP q = some fs) (o1 : okE es = true) (o2 : okE fs = true) : Eats ⟨cut, false, false, p, q⟩ ⟨cut, eat es, eat fs⟩ :=
  Eats.els rfl rfl rfl (elsP_ok h1) (elsP_ok h2) o1 o2
def boundsX (cut : List Nat → Nat → Bool) (g : Int → Nat) (s : ByteArray) : List Nat :=
  if s.size = 0 then [] else pickG (runesP s) ((List.range (runesP s).length).map fun i => decide (i = 0) || cut (clsG g (runesP s)) i) ++ [s.size]
theorem bounds_X {rules : List RuleP} {rest : Bool} {cut : List Nat → Nat → Bool} {g : Int → Nat} {z : Nat} (hg : ∀ r, g r < z) (h : ∀ (c : List Nat) (i : Nat), (∀ x ∈ c, x < z) → 0 < i → i < c.length → decideB rest c i rules = cut c i) (s : ByteArray) : boundsR rules rest g s = boundsX cut g s := by
  unfold boundsR boundsX
  by_cases hs : s.size = 0
  · rw [if_pos hs, if_pos hs]
  rw [if_neg hs, if_neg hs]
  have hlen := clsG_len g (runesP s)
  have hr0 : 0 < (runesP s).length := by
    obtain ⟨k, hk1, hk2⟩ := runesGo_step (s := s) (f := s.size) (a := 0) (by omega) (by omega)
    unfold runesP
    rw [hk2]; simp
  have hne : clsG g (runesP s) ≠ [] := fun e => by rw [e] at hlen; simp at hlen; omega
  have hcl : ∀ x ∈ clsG g (runesP s), x < z := fun x hx => by
    obtain ⟨y, _, rfl⟩ := List.mem_map.1 hx
    exact hg _
  unfold boundsB
  rw [if_neg hne, List.range_succ, List.filter_append, List.map_append, pick_filter (runesP s).length (runesP s) _ rfl (by simp), hlen]
  have e1 : (List.range (runesP s).length).filter (fun i => placeB rules rest (clsG g (runesP s)) i) = (List.range (runesP s).length).filter (fun i => ((List.range (runesP s).length).map fun i => decide (i = 0) || cut (clsG g (runesP s)) i).getD i false) := by
    refine List.filter_congr fun i hi => ?_
    rw [List.mem_range] at hi
    rw [List.getD_eq_getElem?_getD, List.getElem?_map, List.getElem?_range hi, Option.map_some, Option.getD_some]
    unfold placeB
    rcases Nat.eq_zero_or_pos i with rfl | h0
    · simp
    · rw [h _ i hcl h0 (by omega)]
      simp [show i ≠ (clsG g (runesP s)).length by omega]
  have e2 : [(runesP s).length].filter (fun i => placeB rules rest (clsG g (runesP s)) i) = [(runesP s).length] := by
    simp [placeB, hlen]
  rw [e1, e2]
  congr 1
  · refine List.map_congr_left fun i hi => ?_
    have hi := (List.mem_filter.1 hi).1
    rw [List.mem_range] at hi
    unfold edgesP
    rw [List.getD_eq_getElem?_getD, List.getD_eq_getElem?_getD, List.getElem?_append_left (by rw [List.length_map]; omega)]
  · unfold edgesP
    simp only [List.map_cons, List.map_nil]
    rw [List.getD_eq_getElem?_getD, List.getElem?_append_right (by rw [List.length_map]; omega), List.length_map, Nat.sub_self]
    rfl
end Go.Proofs.YtdnkignhenkamaaGreatDoor

/- -/
namespace Go.Proofs.YtdnkignhenkamaaGreatDoor
def sOver (c : List Int) (a b : Int) : Nat → Nat
  | 0 => 0
  | n + 1 => if c.getD n 0 = a ∨ c.getD n 0 = b then sOver c a b n else n + 1
def sStop (x : Int) : Bool := x == 9 || x == 10
def sEnded (c : List Int) (at_ : Nat) (blanks : Bool) : Int :=
  let n := sOver c 11 13 (if blanks then sOver c 4 13 at_ else at_)
  if n ≠ 0 ∧ sStop (c.getD (n - 1) 0) = true then c.getD (n - 1) 0 else 0
def sGoesL : List Int → Bool
  | [] => false
  | x :: r => if x = 5 then true else if [7, 6, 3, 1, 2, 9, 10].contains x then false else sGoesL r
def sInitial (c : List Int) (at_ : Nat) : Bool :=
  let n := sOver c 13 13 at_
  if n = 0 ∨ c.getD (n - 1) 0 ≠ 9 then false
  else
    let m := sOver c 13 13 (n - 1)
    decide (m ≠ 0) && (c.getD (m - 1) 0 == 6 || c.getD (m - 1) 0 == 5)
def sLine (x : Int) : Bool := x == 1 || x == 2 || x == 3
def sCuts (c : List Int) (at_ : Nat) : Bool :=
  let x := c.getD (at_ - 1) 0
  let y := c.getD at_ 0
  if x = 1 ∧ y = 2 then false
  else if sLine x then true
  else
    let near := sOver c 13 13 at_
    let stopped := decide (near ≠ 0) && c.getD (near - 1) 0 == 9
    let last := sEnded c at_ true
    if y = 13 ∨ last = 0 then false
    else if stopped && y == 8 || y == 6 && sInitial c at_ then false
    else if last == 9 && sGoesL (c.drop at_) then false
    else if y = 12 ∨ y = 9 ∨ y = 10 then false
    else if y == 11 && sEnded c at_ false != 0 then false
    else if y = 4 ∨ y = 3 ∨ y = 1 ∨ y = 2 then false
    else true
theorem sOver_le (c : List Int) (a b : Int) : ∀ n, sOver c a b n ≤ n
  | 0 => Nat.le_refl _
  | n + 1 => by
    have := sOver_le c a b n
    unfold sOver; split <;> omega
end Go.Proofs.YtdnkignhenkamaaGreatDoor

/- -/
namespace Go.Proofs.YtdnkignhenkamaaGreatDoor
def toI (c : List Nat) : List Int := c.map fun (x : Nat) => (x : Int)
theorem toI_get (c : List Nat) (i : Nat) : (toI c).getD i 0 = ((c.getD i 0 : Nat) : Int) := by
  unfold toI
  rw [List.getD_eq_getElem?_getD, List.getD_eq_getElem?_getD, List.getElem?_map]
  cases c[i]? <;> rfl
theorem ahead_succ {c : List Nat} {n : Nat} (h : n < c.length) : (c.take (n + 1)).reverse = c.getD n 0 :: (c.take n).reverse := by
  rw [List.take_add_one, List.getElem?_eq_getElem h, List.reverse_append, List.getD_eq_getElem?_getD, List.getElem?_eq_getElem h]; rfl
theorem over_drop (c : List Nat) (a b : Nat) : ∀ n, n ≤ c.length → (c.take (sOver (toI c) (a : Int) (b : Int) n)).reverse = ((c.take n).reverse).dropWhile fun x => [a, b].contains x
  | 0, _ => by simp [sOver]
  | n + 1, h => by
    rw [ahead_succ (by omega), List.dropWhile_cons]
    have e : sOver (toI c) (a : Int) (b : Int) (n + 1) = if (toI c).getD n 0 = (a : Int) ∨ (toI c).getD n 0 = (b : Int) then sOver (toI c) a b n else n + 1 := rfl
    rw [e, toI_get]
    by_cases hc : c.getD n 0 = a ∨ c.getD n 0 = b
    · rw [if_pos (by omega), if_pos (by simpa using hc)]
      exact over_drop c a b n (by omega)
    · rw [if_neg (by omega), if_neg (by simpa using hc), ahead_succ (by omega)]
def endT (r : List Nat) : Nat := match r.dropWhile fun x => [11, 13].contains x with
  | [] => 0
  | x :: _ => if x = 9 ∨ x = 10 then x else 0
def endR (bl : Bool) (r : List Nat) : Nat := endT (if bl then r.dropWhile (fun x => [4, 13].contains x) else r)
theorem ended_key (c : List Nat) (m : Nat) (hm : m ≤ c.length) (k : Nat) (hk : sOver (toI c) ((11 : Nat) : Int) ((13 : Nat) : Int) m = k) : (if k ≠ 0 ∧ sStop ((toI c).getD (k - 1) 0) = true then (toI c).getD (k - 1) 0 else 0) = ((endT (c.take m).reverse : Nat) : Int) := by
  have hd := over_drop c 11 13 m hm
  have hle := sOver_le (toI c) ((11 : Nat) : Int) ((13 : Nat) : Int) m
  unfold endT
  rw [← hd, hk]
  rw [hk] at hle
  cases k with
  | zero => simp
  | succ k =>
    rw [ahead_succ (by omega), Nat.add_sub_cancel, toI_get]
    generalize c.getD k 0 = y
    by_cases h9 : y = 9 ∨ y = 10
    · rw [if_pos ⟨by omega, by unfold sStop; rcases h9 with rfl | rfl <;> rfl⟩]
      simp only [if_pos h9]
    · rw [if_neg (fun e => h9 (by have := e.2; unfold sStop at this; simp only [Bool.or_eq_true, beq_iff_eq] at this; omega))]
      simp only [if_neg h9]; rfl
theorem ended_eq (c : List Nat) (n : Nat) (bl : Bool) (hn : n ≤ c.length) : sEnded (toI c) n bl = ((endR bl (c.take n).reverse : Nat) : Int) := by
  unfold sEnded endR
  cases bl with
  | false => exact ended_key c n hn _ rfl
  | true =>
    have hle := sOver_le (toI c) ((4 : Nat) : Int) ((13 : Nat) : Int) n
    have hd := over_drop c 4 13 n hn
    have := ended_key c _ (Nat.le_trans hle hn) _ rfl
    rw [hd] at this
    exact this
def stopR (r : List Nat) : Bool := match r.dropWhile fun x => [13, 13].contains x with
  | [] => false
  | x :: _ => x == 9
def iniR (r : List Nat) : Bool := match r.dropWhile fun x => [13, 13].contains x with
  | [] => false
  | x :: t => x == 9 && match t.dropWhile fun x => [13, 13].contains x with
    | [] => false
    | y :: _ => y == 6 || y == 5
theorem stop_eq (c : List Nat) (n : Nat) (hn : n ≤ c.length) : (decide (sOver (toI c) 13 13 n ≠ 0) && (toI c).getD (sOver (toI c) 13 13 n - 1) 0 == 9) = stopR (c.take n).reverse := by
  have hd := over_drop c 13 13 n hn
  have hle := sOver_le (toI c) ((13 : Nat) : Int) ((13 : Nat) : Int) n
  unfold stopR
  rw [← hd]
  change (decide (sOver (toI c) ((13 : Nat) : Int) ((13 : Nat) : Int) n ≠ 0) && (toI c).getD (sOver (toI c) ((13 : Nat) : Int) ((13 : Nat) : Int) n - 1) 0 == 9) = _
  generalize sOver (toI c) ((13 : Nat) : Int) ((13 : Nat) : Int) n = k at hle ⊢
  cases k with
  | zero => rfl
  | succ k =>
    rw [ahead_succ (by omega), Nat.add_sub_cancel, toI_get]
    simp only [ne_eq, Nat.add_one_ne_zero, not_false_eq_true, decide_true, Bool.true_and]
    rw [Bool.eq_iff_iff, beq_iff_eq, beq_iff_eq]; omega
theorem ini_eq (c : List Nat) (n : Nat) (hn : n ≤ c.length) : sInitial (toI c) n = iniR (c.take n).reverse := by
  have hd := over_drop c 13 13 n hn
  have hle := sOver_le (toI c) ((13 : Nat) : Int) ((13 : Nat) : Int) n
  unfold sInitial iniR
  rw [← hd]
  dsimp only
  change (if sOver (toI c) ((13 : Nat) : Int) ((13 : Nat) : Int) n = 0 ∨ (toI c).getD (sOver (toI c) ((13 : Nat) : Int) ((13 : Nat) : Int) n - 1) 0 ≠ 9 then false else decide (sOver (toI c) ((13 : Nat) : Int) ((13 : Nat) : Int) (sOver (toI c) ((13 : Nat) : Int) ((13 : Nat) : Int) n - 1) ≠ 0) && ((toI c).getD (sOver (toI c) ((13 : Nat) : Int) ((13 : Nat) : Int) (sOver (toI c) ((13 : Nat) : Int) ((13 : Nat) : Int) n - 1) - 1) 0 == 6 || (toI c).getD (sOver (toI c) ((13 : Nat) : Int) ((13 : Nat) : Int) (sOver (toI c) ((13 : Nat) : Int) ((13 : Nat) : Int) n - 1) - 1) 0 == 5)) = _
  generalize sOver (toI c) ((13 : Nat) : Int) ((13 : Nat) : Int) n = k at hle ⊢
  cases k with
  | zero => rfl
  | succ k =>
    have hd2 := over_drop c 13 13 k (by omega)
    have hle2 := sOver_le (toI c) ((13 : Nat) : Int) ((13 : Nat) : Int) k
    rw [ahead_succ (by omega), Nat.add_sub_cancel, toI_get]
    dsimp only
    rw [← hd2]
    generalize sOver (toI c) ((13 : Nat) : Int) ((13 : Nat) : Int) k = m at hle2 ⊢
    by_cases h9 : c.getD k 0 = 9
    · rw [if_neg (by omega), h9]
      cases m with
      | zero => rfl
      | succ m =>
        rw [ahead_succ (by omega), Nat.add_sub_cancel, toI_get]
        simp only [ne_eq, Nat.add_one_ne_zero, not_false_eq_true, decide_true, Bool.true_and, beq_self_eq_true]
        rw [Bool.eq_iff_iff]
        simp only [Bool.or_eq_true, beq_iff_eq]; omega
    · rw [if_pos (by omega), show (c.getD k 0 == 9) = false from beq_eq_false_iff_ne.2 h9]; rfl
def goR : List Nat → Bool
  | [] => false
  | x :: r => if x = 5 then true else if [7, 6, 3, 1, 2, 9, 10].contains x then false else goR r
theorem go_eq : ∀ (l : List Nat), sGoesL (toI l) = goR l
  | [] => rfl
  | x :: r => by
    have ih := go_eq r
    unfold toI at ih ⊢
    rw [List.map_cons, sGoesL, goR, ih]
    by_cases h5 : x = 5
    · rw [if_pos (by omega), if_pos h5]
    rw [if_neg (by omega), if_neg h5]
    have e : ([7, 6, 3, 1, 2, 9, 10] : List Int).contains (x : Int) = ([7, 6, 3, 1, 2, 9, 10] : List Nat).contains x := by
      rw [Bool.eq_iff_iff]
      simp only [List.contains_iff_mem, List.mem_cons, List.not_mem_nil, or_false]
      omega
    rw [e]
theorem toI_drop (c : List Nat) (i : Nat) : (toI c).drop i = toI (c.drop i) := by unfold toI; rw [List.map_drop]
def cutI (x y : Int) (st ini go e8 : Bool) (last : Int) : Bool :=
  if x = 1 ∧ y = 2 then false
  else if sLine x then true
  else if y = 13 ∨ last = 0 then false
  else if st && y == 8 || y == 6 && ini then false
  else if last == 9 && go then false
  else if y = 12 ∨ y = 9 ∨ y = 10 then false
  else if y == 11 && e8 then false
  else if y = 4 ∨ y = 3 ∨ y = 1 ∨ y = 2 then false
  else true
theorem cuts_eq {c : List Nat} {i : Nat} (hi : i < c.length) : sCuts (toI c) i = cutI (c.getD (i - 1) 0 : Nat) (c.getD i 0 : Nat) (stopR (c.take i).reverse) (iniR (c.take i).reverse) (goR (c.drop i)) (((endR false (c.take i).reverse : Nat) : Int) != 0) (endR true (c.take i).reverse : Nat) := by
  unfold sCuts cutI
  dsimp only
  rw [stop_eq c i (by omega), ended_eq c i true (by omega), ended_eq c i false (by omega), ini_eq c i (by omega), toI_drop, go_eq, toI_get, toI_get]
def chainS (p q : Nat) (st ini go e6 e7 e8 : Bool) : Bool :=
  if [1].contains p && [2].contains q then false
  else if [1, 2, 3].contains p then true
  else if [13].contains q then false
  else if st && [8].contains q then false
  else if ini && [6].contains q then false
  else if e6 && go then false
  else if e7 && [12, 9, 10].contains q then false
  else if e8 && [11, 4, 3, 1, 2].contains q then false
  else if e7 && [4, 3, 1, 2].contains q then false
  else if e7 then true
  else false
set_option maxRecDepth 100000 in
theorem chainS_all : ∀ p < 14, ∀ q < 14, ∀ st ini go e8 : Bool, (cutI (p : Nat) (q : Nat) st ini go e8 0 == chainS p q st ini go false false e8 && (cutI (p : Nat) (q : Nat) st ini go e8 9 == chainS p q st ini go true true e8 && cutI (p : Nat) (q : Nat) st ini go e8 10 == chainS p q st ini go false true e8)) = true := by decide
def grpQ (c e : Nat) : Pat := .node 4 [] [.node 2 [] [setQ c, .node 4 [] [setQ e]]]
def rulesS : List RuleP := [
  ⟨false, false, false, setQ 1, setQ 2⟩,
  ⟨true, false, false, .node 3 [] [setQ 1, setQ 2, setQ 3], .node 0 [] []⟩,
  ⟨false, false, false, .node 0 [] [], setQ 13⟩,
  ⟨false, false, false, .node 2 [] [setQ 9, .node 4 [] [setQ 13]], setQ 8⟩,
  ⟨false, false, false, .node 2 [] [.node 3 [] [setQ 6, setQ 5], .node 4 [] [setQ 13], setQ 9, .node 4 [] [setQ 13]], setQ 6⟩,
  ⟨false, false, false, .node 2 [] [setQ 9, .node 4 [] [setQ 13], grpQ 11 13, grpQ 4 13], .node 2 [] [.node 4 [] [.node 1 [0, 4, 8, 11, 12, 13] []], setQ 5]⟩,
  ⟨false, false, false, .node 2 [] [.node 3 [] [setQ 9, setQ 10], .node 4 [] [setQ 13], grpQ 11 13, grpQ 4 13], .node 3 [] [setQ 12, setQ 9, setQ 10]⟩,
  ⟨false, false, false, .node 2 [] [.node 3 [] [setQ 9, setQ 10], .node 4 [] [setQ 13], grpQ 11 13], .node 3 [] [setQ 11, setQ 4, setQ 3, setQ 1, setQ 2]⟩,
  ⟨false, false, false, .node 2 [] [.node 3 [] [setQ 9, setQ 10], .node 4 [] [setQ 13], grpQ 11 13, grpQ 4 13], .node 3 [] [setQ 4, setQ 3, setQ 1, setQ 2]⟩,
  ⟨true, false, false, .node 2 [] [.node 3 [] [setQ 9, setQ 10], .node 4 [] [setQ 13], grpQ 11 13, grpQ 4 13], .node 0 [] []⟩]
theorem lang_grp1 (c e : Nat) (v : List Nat) : Lang (.node 2 [] [setQ c, .node 4 [] [setQ e]]) v ↔ ∃ t, v = c :: t ∧ ∀ x ∈ t, x = e := by
  rw [lang_then]
  simp only [LangT, lang_many, setQ, lang_set]
  constructor
  · rintro ⟨_, _, rfl, ⟨y, rfl, hy⟩, t, _, rfl, hs, rfl⟩
    simp at hy
    subst hy
    have h := (star_set [e] t).1 ((star_congr (lang_set [e] []) t).1 hs)
    exact ⟨t, by simp, fun x hx => by simpa using h x hx⟩
  · rintro ⟨t, rfl, ht⟩
    exact ⟨[c], t, rfl, ⟨c, rfl, by simp⟩, t, [], by simp, (star_congr (lang_set [e] []) t).2 ((star_set [e] t).2 fun x hx => by simpa using ht x hx), rfl⟩
theorem grp_all (c e : Nat) (u : List Nat) (h : Lang (grpQ c e) u) : ∀ x ∈ u, x = c ∨ x = e := by
  unfold grpQ at h
  rw [lang_many] at h
  induction h with
  | nil => simp
  | app h1 _ ih =>
    obtain ⟨t, rfl, ht⟩ := (lang_grp1 c e _).1 h1
    intro x hx
    rcases List.mem_append.1 hx with hx | hx
    · rcases List.mem_cons.1 hx with rfl | hx
      · exact .inl rfl
      · exact .inr (ht x hx)
    · exact ih x hx
theorem grp_of (c e : Nat) : ∀ (z : Nat) (u : List Nat), u.length ≤ z → (∀ x ∈ u, x = c ∨ x = e) → Lang (grpQ c e) (u.dropWhile fun x => x == e)
  | z, u, hz, hu => by
    unfold grpQ
    rw [lang_many]
    cases hd : u.dropWhile fun x => x == e with
    | nil => exact .nil
    | cons y t =>
      have hm : ∀ x ∈ y :: t, x ∈ u := fun x hx => (List.dropWhile_suffix _).subset (hd ▸ hx)
      have hy : y ≠ e := fun e' => by
        have h1 := List.dropWhile_cons_of_pos (p := fun x => x == e) (a := y) (l := t) (by simpa using e')
        have h2 : (u.dropWhile fun x => x == e).dropWhile (fun x => x == e) = u.dropWhile fun x => x == e := by
          clear h1 hm hd hu hz
          induction u with
          | nil => rfl
          | cons a u ih =>
            rw [List.dropWhile_cons]
            split
            · exact ih
            · rename_i h; rw [List.dropWhile_cons, if_neg h]
        rw [hd, h1] at h2
        have h3 := (List.dropWhile_suffix (fun x => x == e) (l := t)).length_le
        rw [h2] at h3
        simp at h3
        omega
      have hyc : y = c := (hu y (hm y (by simp))).resolve_right hy
      subst hyc
      have hl : (y :: t).length ≤ u.length := by rw [← hd]; exact (List.dropWhile_suffix _).length_le
      cases z with
      | zero => simp at hl; omega
      | succ z =>
        have ih := grp_of y e z t (by simp at hl; omega) fun x hx => hu x (hm x (List.mem_cons_of_mem _ hx))
        unfold grpQ at ih
        rw [lang_many] at ih
        have ht : t = (t.takeWhile fun x => x == e) ++ (t.dropWhile fun x => x == e) := List.takeWhile_append_dropWhile.symm
        have : y :: t = (y :: t.takeWhile fun x => x == e) ++ (t.dropWhile fun x => x == e) := by rw [List.cons_append, ← ht]
        rw [this]
        refine .app ((lang_grp1 y e _).2 ⟨_, rfl, fun x hx => ?_⟩) ih
        have := take_in [e] t x
        simp only [List.contains_cons, List.contains_nil, Bool.or_false] at this
        simpa using this hx
theorem lang_many1 (e : Nat) (u : List Nat) : Lang (.node 4 [] [setQ e]) u ↔ ∀ x ∈ u, x = e := by
  unfold setQ
  rw [lang_many, star_congr (lang_set [e] []), star_set]
  simp
theorem takeW_all (e : Nat) (u : List Nat) : ∀ x ∈ u.takeWhile fun x => x == e, x = e := fun x hx => by
  have := take_in [e] u x
  simp only [List.contains_cons, List.contains_nil, Bool.or_false] at this
  simpa using this hx
theorem left_grp {P : Pat} {l : List Nat} (hP : ∀ u, Lang P u ↔ One l u) (u : List Nat) : Lang (.node 2 [] [P, .node 4 [] [setQ 13], grpQ 11 13]) u ↔ elsL [.one l, .many [11, 13]] u := by
  rw [lang_then]
  simp only [LangT, elsL, elL, hP]
  constructor
  · rintro ⟨v, _, rfl, hv, m, _, rfl, hm, g, _, rfl, hg, rfl⟩
    refine ⟨v, _, rfl, hv, m ++ g, [], by simp, fun x hx => ?_, rfl⟩
    rcases List.mem_append.1 hx with hx | hx
    · have := (lang_many1 13 m).1 hm x hx; simp [this]
    · rcases grp_all 11 13 g hg x hx with rfl | rfl <;> simp
  · rintro ⟨v, _, rfl, hv, m, _, rfl, hm, rfl⟩
    refine ⟨v, _, rfl, hv, m.takeWhile (fun x => x == 13), m.dropWhile (fun x => x == 13), by rw [List.takeWhile_append_dropWhile, List.append_nil], (lang_many1 13 _).2 (takeW_all 13 m), _, [], by simp, grp_of 11 13 m.length m (Nat.le_refl _) fun x hx => by simpa using hm x hx, rfl⟩
theorem left_grp2 {P : Pat} {l : List Nat} (hP : ∀ u, Lang P u ↔ One l u) (u : List Nat) : Lang (.node 2 [] [P, .node 4 [] [setQ 13], grpQ 11 13, grpQ 4 13]) u ↔ elsL [.one l, .many [11, 13], .many [4, 13]] u := by
  rw [lang_then]
  simp only [LangT, elsL, elL, hP]
  constructor
  · rintro ⟨v, _, rfl, hv, m, _, rfl, hm, g, _, rfl, hg, h, _, rfl, hh, rfl⟩
    refine ⟨v, _, rfl, hv, m ++ g, h, by simp, fun x hx => ?_, h, [], by simp, fun x hx => ?_, rfl⟩
    · rcases List.mem_append.1 hx with hx | hx
      · have := (lang_many1 13 m).1 hm x hx; simp [this]
      · rcases grp_all 11 13 g hg x hx with rfl | rfl <;> simp
    · rcases grp_all 4 13 h hh x hx with rfl | rfl <;> simp
  · rintro ⟨v, _, rfl, hv, m, _, rfl, hm, h, _, rfl, hh, rfl⟩
    have e1 : ((m ++ h.takeWhile fun x => x == 13).takeWhile fun x => x == 13) ++ ((m ++ h.takeWhile fun x => x == 13).dropWhile fun x => x == 13) = m ++ h.takeWhile fun x => x == 13 := List.takeWhile_append_dropWhile
    have e2 : (h.takeWhile fun x => x == 13) ++ (h.dropWhile fun x => x == 13) = h := List.takeWhile_append_dropWhile
    have e : m ++ (h ++ []) = ((m ++ h.takeWhile fun x => x == 13).takeWhile fun x => x == 13) ++ (((m ++ h.takeWhile fun x => x == 13).dropWhile fun x => x == 13) ++ ((h.dropWhile fun x => x == 13) ++ [])) := by
      rw [List.append_nil, List.append_nil, ← List.append_assoc (List.takeWhile _ _), e1, List.append_assoc, e2]
    refine ⟨v, _, rfl, hv, _, _, e, (lang_many1 13 _).2 (takeW_all 13 _), _, _, rfl, grp_of 11 13 _ _ (Nat.le_refl _) fun x hx => ?_, _, [], rfl, grp_of 4 13 _ h (Nat.le_refl _) fun x hx => by simpa using hh x hx, rfl⟩
    rcases List.mem_append.1 hx with hx | hx
    · simpa using hm x hx
    · exact .inr (takeW_all 13 h x hx)
def tests : List RB := [
  ⟨false, eat [.one [1]], eat [.one [2]]⟩,
  ⟨true, eat [.one [1, 2, 3]], eat []⟩,
  ⟨false, eat [], eat [.one [13]]⟩,
  ⟨false, eat [.many [13], .one [9]], eat [.one [8]]⟩,
  ⟨false, eat [.many [13], .one [9], .many [13], .one [6, 5]], eat [.one [6]]⟩,
  ⟨false, eat [.many [4, 13], .many [11, 13], .one [9]], eat [.many [0, 4, 8, 11, 12, 13], .one [5]]⟩,
  ⟨false, eat [.many [4, 13], .many [11, 13], .one [9, 10]], eat [.one [12, 9, 10]]⟩,
  ⟨false, eat [.many [11, 13], .one [9, 10]], eat [.one [11, 4, 3, 1, 2]]⟩,
  ⟨false, eat [.many [4, 13], .many [11, 13], .one [9, 10]], eat [.one [4, 3, 1, 2]]⟩,
  ⟨true, eat [.many [4, 13], .many [11, 13], .one [9, 10]], eat []⟩]
theorem one_set (c : Nat) (u : List Nat) : Lang (setQ c) u ↔ One [c] u := lang_set [c] [] u
theorem eats_S : EatsL rulesS tests :=
  .cons (.pat rfl rfl rfl rfl) <| .cons (.pat rfl rfl rfl rfl) <| .cons (.pat rfl rfl rfl rfl) <| .cons (.pat rfl rfl rfl rfl) <| .cons (.pat rfl rfl rfl rfl) <|
  .cons (.els rfl rfl rfl (left_grp2 (one_set 9)) (elsP_ok rfl) rfl rfl) <|
  .cons (.els rfl rfl rfl (left_grp2 (lang_alt [9, 10])) (elsP_ok rfl) rfl rfl) <|
  .cons (.els rfl rfl rfl (left_grp (lang_alt [9, 10])) (elsP_ok rfl) rfl rfl) <|
  .cons (.els rfl rfl rfl (left_grp2 (lang_alt [9, 10])) (elsP_ok rfl) rfl rfl) <|
  .cons (.els rfl rfl rfl (left_grp2 (lang_alt [9, 10])) (elsP_ok rfl) rfl rfl) .nil
theorem drop13 (r : List Nat) : (r.dropWhile fun x => [13, 13].contains x) = r.dropWhile fun x => [13].contains x := by
  congr 1; funext x; simp
theorem eat_stop (r : List Nat) : eat [.many [13], .one [9]] r = stopR r := by
  unfold stopR
  rw [eat, drop13]
  generalize (r.dropWhile fun x => [13].contains x) = d
  cases d with
  | nil => rfl
  | cons x t => rw [Bool.eq_iff_iff]; simp [eat]
theorem eat_ini (r : List Nat) : eat [.many [13], .one [9], .many [13], .one [6, 5]] r = iniR r := by
  unfold iniR
  rw [eat, drop13]
  generalize (r.dropWhile fun x => [13].contains x) = d
  cases d with
  | nil => rfl
  | cons x t =>
    simp only [eat, drop13]
    generalize (t.dropWhile fun x => [13].contains x) = d2
    cases d2 with
    | nil => simp [eat]
    | cons y t2 => rw [Bool.eq_iff_iff]; simp [eat]
theorem eat_go : ∀ (l : List Nat), (∀ x ∈ l, x < 14) → eat [.many [0, 4, 8, 11, 12, 13], .one [5]] l = goR l
  | [], _ => rfl
  | x :: r, h => by
    have ih := eat_go r fun y hy => h y (List.mem_cons_of_mem _ hy)
    have hx := h x (by simp)
    rw [eat] at ih
    rw [eat, List.dropWhile_cons, goR]
    by_cases hm : x = 0 ∨ x = 4 ∨ x = 8 ∨ x = 11 ∨ x = 12 ∨ x = 13
    · rw [if_pos (by simpa using hm), ih, if_neg (by omega), if_neg (by simp; omega)]
    · rw [if_neg (by simpa using hm)]
      by_cases h5 : x = 5
      · subst h5; rfl
      · rw [if_neg h5, if_pos (by simp; omega)]
        simp [eat, h5]
theorem eat_last (r : List Nat) (l : List Nat) : eat [.many [4, 13], .many [11, 13], .one l] r = match (r.dropWhile fun x => [4, 13].contains x).dropWhile fun x => [11, 13].contains x with | [] => false | x :: _ => l.contains x := by
  rw [eat, eat]
  generalize ((r.dropWhile fun x => [4, 13].contains x).dropWhile fun x => [11, 13].contains x) = d
  cases d with
  | nil => rfl
  | cons x t => simp [eat]
theorem eat_near (r : List Nat) (l : List Nat) : eat [.many [11, 13], .one l] r = match r.dropWhile fun x => [11, 13].contains x with | [] => false | x :: _ => l.contains x := by
  rw [eat]
  generalize (r.dropWhile fun x => [11, 13].contains x) = d
  cases d with
  | nil => rfl
  | cons x t => simp [eat]
theorem rules_sent {c : List Nat} (hc : ∀ x ∈ c, x < 14) {i : Nat} (h0 : 0 < i) (hi : i < c.length) : decideB false c i rulesS = sCuts (toI c) i := by
  rw [decide_F false c i eats_S, cuts_eq hi]
  obtain ⟨k, rfl⟩ : ∃ k, i = k + 1 := ⟨i - 1, by omega⟩
  have e1 : c.getD k 0 = c[k]'(by omega) := by rw [List.getD_eq_getElem?_getD, List.getElem?_eq_getElem (by omega)]; rfl
  have e2 : c.getD (k + 1) 0 = c[k + 1]'hi := by rw [List.getD_eq_getElem?_getD, List.getElem?_eq_getElem hi]; rfl
  have hp : c.getD k 0 < 14 := by rw [e1]; exact hc _ (List.getElem_mem _)
  have hq : c.getD (k + 1) 0 < 14 := by rw [e2]; exact hc _ (List.getElem_mem _)
  have hr := ahead_succ (c := c) (n := k) (by omega)
  have hb : c.drop (k + 1) = c.getD (k + 1) 0 :: c.drop (k + 2) := by rw [List.drop_eq_getElem_cons hi, e2]
  have hgo := eat_go (c.drop (k + 1)) fun x hx => hc x (List.mem_of_mem_drop hx)
  have hst := eat_stop (c.take (k + 1)).reverse
  have hini := eat_ini (c.take (k + 1)).reverse
  have hl9 := eat_last (c.take (k + 1)).reverse [9]
  have hl := eat_last (c.take (k + 1)).reverse [9, 10]
  have hn := eat_near (c.take (k + 1)).reverse [9, 10]
  have hL : endR true (c.take (k + 1)).reverse = match ((c.take (k + 1)).reverse.dropWhile fun x => [4, 13].contains x).dropWhile fun x => [11, 13].contains x with | [] => 0 | x :: _ => if x = 9 ∨ x = 10 then x else 0 := rfl
  have hN : endR false (c.take (k + 1)).reverse = match (c.take (k + 1)).reverse.dropWhile fun x => [11, 13].contains x with | [] => 0 | x :: _ => if x = 9 ∨ x = 10 then x else 0 := rfl
  have f1 : ∀ l, eat [.one l] (c.take (k + 1)).reverse = l.contains (c.getD k 0) := fun l => by rw [hr]; simp [eat]
  have g1 : ∀ l, eat [.one l] (c.drop (k + 1)) = l.contains (c.getD (k + 1) 0) := fun l => by rw [hb]; simp [eat]
  have z1 : ∀ r, eat [] r = true := fun r => by rw [eat]
  have hch : decF false (c.take (k + 1)).reverse (c.drop (k + 1)) tests = chainS (c.getD k 0) (c.getD (k + 1) 0) (stopR (c.take (k + 1)).reverse) (iniR (c.take (k + 1)).reverse) (goR (c.drop (k + 1))) (eat [.many [4, 13], .many [11, 13], .one [9]] (c.take (k + 1)).reverse) (eat [.many [4, 13], .many [11, 13], .one [9, 10]] (c.take (k + 1)).reverse) (eat [.many [11, 13], .one [9, 10]] (c.take (k + 1)).reverse) := by
    unfold tests chainS
    simp only [decF, hst, hini, hgo, f1, g1, z1, Bool.and_true, Bool.true_and]
  rw [hch, Nat.add_sub_cancel]
  clear hch hst hini hgo f1 g1 z1 hr hb e1 e2
  generalize stopR (c.take (k + 1)).reverse = st
  generalize iniR (c.take (k + 1)).reverse = ini
  generalize goR (c.drop (k + 1)) = go
  have h8 : (((endR false (c.take (k + 1)).reverse : Nat) : Int) != 0) = eat [.many [11, 13], .one [9, 10]] (c.take (k + 1)).reverse := by
    rw [hn, hN]
    generalize ((c.take (k + 1)).reverse.dropWhile fun x => [11, 13].contains x) = d
    cases d with
    | nil => rfl
    | cons x t =>
      by_cases h9 : x = 9 ∨ x = 10
      · rcases h9 with rfl | rfl <;> rfl
      · have : ([9, 10] : List Nat).contains x = false := by simp; omega
        simp only [if_neg h9, this]; rfl
  rw [h8]
  generalize eat [.many [11, 13], .one [9, 10]] (c.take (k + 1)).reverse = e8
  have hall := chainS_all (c.getD k 0) hp (c.getD (k + 1) 0) hq st ini go e8
  simp only [Bool.and_eq_true, beq_iff_eq] at hall
  obtain ⟨c0, c9, c10⟩ := hall
  rw [hl9, hl, hL]
  generalize (((c.take (k + 1)).reverse.dropWhile fun x => [4, 13].contains x).dropWhile fun x => [11, 13].contains x) = d
  cases d with
  | nil => exact c0.symm
  | cons x t =>
    by_cases h9 : x = 9
    · subst h9; exact c9.symm
    by_cases h10 : x = 10
    · subst h10; exact c10.symm
    have a1 : ([9] : List Nat).contains x = false := by simp; omega
    have a2 : ([9, 10] : List Nat).contains x = false := by simp; omega
    simp only [a1, a2, if_neg (show ¬ (x = 9 ∨ x = 10) by omega)]
    exact c0.symm
theorem bounds_sent {g : Int → Nat} (hg : ∀ r, g r < 14) (s : ByteArray) : boundsR rulesS false g s = boundsX (fun c i => sCuts (toI c) i) g s :=
  bounds_X hg (fun _ _ hc h0 hi => rules_sent hc h0 hi) s
end Go.Proofs.YtdnkignhenkamaaGreatDoor

/- -/
namespace Go.Proofs.YtdnkignhenkamaaGreatDoor
def risesB : List Nat → Bool
  | a :: b :: r => decide (a < b) && risesB (b :: r)
  | _ => true
theorem risesB_at : ∀ {l : List Nat} {i x y : Nat}, risesB l = true → l[i]? = some x → l[i + 1]? = some y → x < y
  | [], i, x, y, _, hx, _ => by simp at hx
  | [a], i, x, y, _, _, hy => by simp at hy
  | a :: b :: r, 0, x, y, h, hx, hy => by
    simp at hx hy
    subst hx; subst hy
    unfold risesB at h
    rw [Bool.and_eq_true] at h
    exact of_decide_eq_true h.1
  | a :: b :: r, i + 1, x, y, h, hx, hy => by
    unfold risesB at h
    rw [Bool.and_eq_true] at h
    exact risesB_at h.2 (by simpa using hx) (by simpa using hy)
def formOk (op kn : Nat) : Bool := if op = 0 ∨ op = 1 then kn == 0 else if op = 2 ∨ op = 3 then decide (2 ≤ kn) else kn == 1
def nodeOk (N op : Nat) (cs : List Nat) (kn : Nat) : Bool := decide (op ≤ 6) && (op == 1 || cs.isEmpty) && formOk op kn && cs.all (fun c => decide (c < N)) && risesB cs
mutual
def sizeP : Pat → Nat
  | .node _ _ ks => 1 + sizeL ks
def sizeL : List Pat → Nat
  | [] => 0
  | p :: r => sizeP p + sizeL r
end
mutual
def goodP (N : Nat) : Pat → Bool
  | .node op cs ks => nodeOk N op cs ks.length && goodL N ks
def goodL (N : Nat) : List Pat → Bool
  | [] => true
  | p :: r => goodP N p && goodL N r
end
theorem sizeP_pos : ∀ p : Pat, 1 ≤ sizeP p
  | .node _ _ ks => by unfold sizeP; omega
theorem sizeL_take : ∀ {ks : List Pat} {i : Nat} {p : Pat}, ks[i]? = some p → sizeL (ks.take (i + 1)) = sizeL (ks.take i) + sizeP p
  | [], i, p, h => by simp at h
  | q :: r, 0, p, h => by simp at h; subst h; simp [sizeL]
  | q :: r, i + 1, p, h => by
    have := sizeL_take (ks := r) (i := i) (p := p) (by simpa using h)
    rw [List.take_succ_cons, List.take_succ_cons, sizeL, sizeL, this]; omega
theorem sizeL_le : ∀ (ks : List Pat) (i : Nat), sizeL (ks.take i) ≤ sizeL ks
  | [], i => by simp
  | q :: r, 0 => by simp [sizeL]
  | q :: r, i + 1 => by rw [List.take_succ_cons, sizeL, sizeL]; have := sizeL_le r i; omega
theorem sizeL_at {ks : List Pat} {i : Nat} {p : Pat} (h : ks[i]? = some p) : sizeL (ks.take i) + sizeP p ≤ sizeL ks := by
  rw [← sizeL_take h]; exact sizeL_le _ _
theorem goodL_at {N : Nat} : ∀ {ks : List Pat} {i : Nat} {p : Pat}, goodL N ks = true → ks[i]? = some p → goodP N p = true
  | [], i, p, _, h => by simp at h
  | q :: r, 0, p, g, h => by simp at h; subst h; unfold goodL at g; rw [Bool.and_eq_true] at g; exact g.1
  | q :: r, i + 1, p, g, h => by unfold goodL at g; rw [Bool.and_eq_true] at g; exact goodL_at g.2 (by simpa using h)
theorem nodeOk_mono {N M op : Nat} {cs : List Nat} {kn : Nat} (hNM : N ≤ M) (h : nodeOk N op cs kn = true) : nodeOk M op cs kn = true := by
  unfold nodeOk at h ⊢
  simp only [Bool.and_eq_true, decide_eq_true_eq, Bool.or_eq_true, beq_iff_eq, List.isEmpty_iff, List.all_eq_true] at h ⊢
  obtain ⟨⟨⟨⟨h1, h2⟩, h3⟩, h4⟩, h5⟩ := h
  exact ⟨⟨⟨⟨h1, h2⟩, h3⟩, fun x hx => Nat.lt_of_lt_of_le (h4 x hx) hNM⟩, h5⟩
mutual
theorem goodP_mono {N M : Nat} (hNM : N ≤ M) : ∀ {p : Pat}, goodP N p = true → goodP M p = true
  | .node op cs ks, h => by
    unfold goodP at h ⊢
    rw [Bool.and_eq_true] at h ⊢
    exact ⟨nodeOk_mono hNM h.1, goodL_mono hNM h.2⟩
theorem goodL_mono {N M : Nat} (hNM : N ≤ M) : ∀ {ks : List Pat}, goodL N ks = true → goodL M ks = true
  | [], _ => by unfold goodL; rfl
  | p :: r, h => by
    unfold goodL at h ⊢
    rw [Bool.and_eq_true] at h ⊢
    exact ⟨goodP_mono hNM h.1, goodL_mono hNM h.2⟩
end
theorem node_parts {N op : Nat} {cs : List Nat} {kn : Nat} (h : nodeOk N op cs kn = true) : op ≤ 6 ∧ (op = 1 ∨ cs = []) ∧ formOk op kn = true ∧ (∀ (i c : Nat), cs[i]? = some c → c < N) ∧ risesB cs = true := by
  unfold nodeOk at h
  simp only [Bool.and_eq_true, decide_eq_true_eq, Bool.or_eq_true, beq_iff_eq, List.isEmpty_iff, List.all_eq_true] at h
  obtain ⟨⟨⟨⟨h1, h2⟩, h3⟩, h4⟩, h5⟩ := h
  exact ⟨h1, h2, h3, fun i c hc => h4 c (List.mem_of_getElem? hc), h5⟩
end Go.Proofs.YtdnkignhenkamaaGreatDoor

/- -/
namespace Go.Proofs.YtdnkignhenkamaaGreatDoor
open Go.RowKit
end Go.Proofs.YtdnkignhenkamaaGreatDoor

/- -/
namespace Go.Proofs.YtdnkignhenkamaaGreatDoor
open Go.RowKit
end Go.Proofs.YtdnkignhenkamaaGreatDoor

/- -/
namespace Go.Proofs.YtdnkignhenkamaaGreatDoor
open Go.RowKit
end Go.Proofs.YtdnkignhenkamaaGreatDoor

/- -/
namespace Go.Proofs.YtdnkignhenkamaaGreatDoor
open Go.RowKit
end Go.Proofs.YtdnkignhenkamaaGreatDoor

/- -/
namespace Go.Proofs.YtdnkignhenkamaaGreatDoor
open Go.RowKit
end Go.Proofs.YtdnkignhenkamaaGreatDoor

/- -/
namespace Go.Proofs.YtdnkignhenkamaaGreatDoor
open Go.RowKit
def leadN (c : Nat) : Nat × Nat := if c < 128 then (1, c) else if 192 ≤ c ∧ c < 224 then (2, c % 32) else if 224 ≤ c ∧ c < 240 then (3, c % 16) else if 240 ≤ c ∧ c < 248 then (4, c % 8) else (0, 0)
def widN (r : Nat) : Nat := if 1114111 < r ∨ (55296 ≤ r ∧ r ≤ 57343) then 0 else if r < 128 then 1 else if r < 2048 then 2 else if r < 65536 then 3 else 4
def foldN (g : Nat → Nat) (m : Nat) : Nat → Nat
  | 0 => m
  | j + 1 => foldN g m j * 64 + g (j + 1) % 64
theorem lead_cases (c : Nat) (hc : c < 256) : (c < 128 ∧ leadN c = (1, c)) ∨ ((128 ≤ c ∧ c / 32 = 6) ∧ leadN c = (2, c % 32)) ∨ ((128 ≤ c ∧ c / 32 ≠ 6 ∧ c / 16 = 14) ∧ leadN c = (3, c % 16)) ∨ ((128 ≤ c ∧ c / 32 ≠ 6 ∧ c / 16 ≠ 14 ∧ c / 8 = 30) ∧ leadN c = (4, c % 8)) ∨ ((128 ≤ c ∧ c / 32 ≠ 6 ∧ c / 16 ≠ 14 ∧ c / 8 ≠ 30) ∧ leadN c = (0, 0)) := by
  unfold leadN
  by_cases h1 : c < 128
  · exact .inl ⟨h1, if_pos h1⟩
  by_cases h2 : 192 ≤ c ∧ c < 224
  · exact .inr (.inl ⟨by omega, by rw [if_neg h1, if_pos h2]⟩)
  by_cases h3 : 224 ≤ c ∧ c < 240
  · exact .inr (.inr (.inl ⟨by omega, by rw [if_neg h1, if_neg h2, if_pos h3]⟩))
  by_cases h4 : 240 ≤ c ∧ c < 248
  · exact .inr (.inr (.inr (.inl ⟨by omega, by rw [if_neg h1, if_neg h2, if_neg h3, if_pos h4]⟩)))
  · exact .inr (.inr (.inr (.inr ⟨by omega, by rw [if_neg h1, if_neg h2, if_neg h3, if_neg h4]⟩)))
theorem lead_le (c : Nat) (hc : c < 256) : (leadN c).1 ≤ 4 := by rcases lead_cases c hc with ⟨_, e⟩ | ⟨_, e⟩ | ⟨_, e⟩ | ⟨_, e⟩ | ⟨_, e⟩ <;> rw [e] <;> simp
section
variable {g : Nat → Nat} {n : Nat}
theorem ref_none (h : (leadN (g 0)).1 = 0) (h0 : g 0 < 256) : Lib.decodeN n (g 0) (g 1) (g 2) (g 3) = (65533, 1) := by
  unfold Lib.decodeN
  rcases lead_cases (g 0) h0 with ⟨hb, e⟩ | ⟨hb, e⟩ | ⟨hb, e⟩ | ⟨hb, e⟩ | ⟨hb, e⟩ <;> rw [e] at h <;> simp only at h
  all_goals try omega
  rw [if_neg (by omega), if_neg (by omega), if_neg (by omega), if_neg (by omega)]
theorem ref_short (h : n < (leadN (g 0)).1) (hn : 0 < n) (h0 : g 0 < 256) : Lib.decodeN n (g 0) (g 1) (g 2) (g 3) = (65533, 1) := by
  unfold Lib.decodeN
  rcases lead_cases (g 0) h0 with ⟨hb, e⟩ | ⟨hb, e⟩ | ⟨hb, e⟩ | ⟨hb, e⟩ | ⟨hb, e⟩ <;> rw [e] at h <;> simp only at h
  all_goals try omega
  all_goals rw [if_neg (by omega), if_neg (by omega), if_neg (by omega), if_neg (by omega)]
theorem ref_cont {j : Nat} (h1 : 1 ≤ j) (hj : j < (leadN (g 0)).1) (hg : g j / 64 ≠ 2) (h0 : g 0 < 256) : Lib.decodeN n (g 0) (g 1) (g 2) (g 3) = (65533, 1) := by
  have h4 : j = 1 ∨ j = 2 ∨ j = 3 := by have := lead_le (g 0) h0; omega
  unfold Lib.decodeN
  rcases lead_cases (g 0) h0 with ⟨hb, e⟩ | ⟨hb, e⟩ | ⟨hb, e⟩ | ⟨hb, e⟩ | ⟨hb, e⟩ <;> rw [e] at hj <;> simp only at hj
  all_goals try omega
  all_goals
    rcases h4 with rfl | rfl | rfl
    all_goals try omega
    all_goals rw [if_neg (by omega), if_neg (by omega), if_neg (by omega), if_neg (by omega)]
theorem wid_one {r : Nat} (h : r < 128) : widN r = 1 := by unfold widN; rw [if_neg (by omega), if_pos h]
theorem wid_two {r : Nat} (h : 128 ≤ r) (h2 : r < 2048) : widN r = 2 := by unfold widN; rw [if_neg (by omega), if_neg (by omega), if_pos h2]
theorem wid_bad {r : Nat} (h : 1114111 < r ∨ (55296 ≤ r ∧ r ≤ 57343)) : widN r = 0 := by unfold widN; rw [if_pos h]
theorem wid_three {r : Nat} (h : 2048 ≤ r) (h2 : r < 65536) (h3 : ¬ (55296 ≤ r ∧ r ≤ 57343)) : widN r = 3 := by unfold widN; rw [if_neg (by omega), if_neg (by omega), if_neg (by omega), if_pos h2]
theorem wid_four {r : Nat} (h : 65536 ≤ r) (h2 : r ≤ 1114111) : widN r = 4 := by unfold widN; rw [if_neg (by omega), if_neg (by omega), if_neg (by omega), if_neg (by omega)]
theorem ref_end {k m r : Nat} (hL : leadN (g 0) = (k, m)) (hk : k ≠ 0) (hn : k ≤ n) (hc : ∀ j, 1 ≤ j → j < k → g j / 64 = 2) (h0 : g 0 < 256) (hr : foldN g m (k - 1) = r) :
    (widN r = k → Lib.decodeN n (g 0) (g 1) (g 2) (g 3) = (r, k)) ∧ (widN r ≠ k → Lib.decodeN n (g 0) (g 1) (g 2) (g 3) = (65533, 1)) := by
  have c1 := hc 1
  have c2 := hc 2
  have c3 := hc 3
  clear hc
  unfold Lib.decodeN
  rcases lead_cases (g 0) h0 with ⟨hb, e⟩ | ⟨hb, e⟩ | ⟨hb, e⟩ | ⟨hb, e⟩ | ⟨hb, e⟩ <;> rw [e] at hL <;> injection hL with e1 e2 <;> subst e1 <;> subst e2 <;> simp only [foldN, Nat.reduceAdd, Nat.reduceSub] at hr
  · subst hr
    rw [if_pos hb, wid_one hb]
    exact ⟨fun _ => rfl, fun h => absurd rfl h⟩
  · have hr2 : r < 2048 := by omega
    rw [if_neg (by omega), if_pos (by omega), hr]
    by_cases h : r ≥ 128
    · rw [if_pos h, wid_two h hr2]
      exact ⟨fun _ => rfl, fun h => absurd rfl h⟩
    · rw [if_neg h, wid_one (by omega)]
      exact ⟨fun h => by omega, fun _ => rfl⟩
  · rw [show (g 0 % 16 * 64 + g 1 % 64) * 64 + g 2 % 64 = g 0 % 16 * 4096 + g 1 % 64 * 64 + g 2 % 64 by omega] at hr
    have hr2 : r < 65536 := by omega
    rw [if_neg (by omega), if_neg (by omega), if_pos (by omega), hr]
    by_cases h : r ≥ 2048 ∧ (r < 55296 ∨ 57344 ≤ r ∧ r ≤ 1114111)
    · rw [if_pos h, wid_three h.1 hr2 (by omega)]
      exact ⟨fun _ => rfl, fun h => absurd rfl h⟩
    · rw [if_neg h]
      refine ⟨fun hw => ?_, fun _ => rfl⟩
      exfalso
      by_cases h2 : 55296 ≤ r ∧ r ≤ 57343
      · rw [wid_bad (.inr h2)] at hw; omega
      · by_cases h3 : r < 128
        · rw [wid_one h3] at hw; omega
        · rw [wid_two (by omega) (by omega)] at hw; omega
  · rw [show ((g 0 % 8 * 64 + g 1 % 64) * 64 + g 2 % 64) * 64 + g 3 % 64 = g 0 % 8 * 262144 + g 1 % 64 * 4096 + g 2 % 64 * 64 + g 3 % 64 by omega] at hr
    rw [if_neg (by omega), if_neg (by omega), if_neg (by omega), if_pos (by omega), hr]
    by_cases h : r ≥ 65536 ∧ (r < 55296 ∨ 57344 ≤ r ∧ r ≤ 1114111)
    · rw [if_pos h, wid_four h.1 (by omega)]
      exact ⟨fun _ => rfl, fun h => absurd rfl h⟩
    · rw [if_neg h]
      refine ⟨fun hw => ?_, fun _ => rfl⟩
      exfalso
      by_cases h2 : 1114111 < r ∨ (55296 ≤ r ∧ r ≤ 57343)
      · rw [wid_bad h2] at hw; omega
      · by_cases h3 : r < 128
        · rw [wid_one h3] at hw; omega
        · by_cases h4 : r < 2048
          · rw [wid_two (by omega) h4] at hw; omega
          · rw [wid_three (by omega) (by omega) (by omega)] at hw; omega
  · exact absurd rfl hk
theorem fold_bd (h0 : g 0 < 256) : ∀ j, j < (leadN (g 0)).1 → foldN g (leadN (g 0)).2 j < 2097152 := by
  intro j hj
  have hl := lead_le (g 0) h0
  rcases (by omega : j = 0 ∨ j = 1 ∨ j = 2 ∨ j = 3) with rfl | rfl | rfl | rfl
  all_goals
    rcases lead_cases (g 0) h0 with ⟨hb, e⟩ | ⟨hb, e⟩ | ⟨hb, e⟩ | ⟨hb, e⟩ | ⟨hb, e⟩ <;> rw [e] at hj ⊢ <;> simp only [foldN] at hj ⊢ <;> omega
end
set_option maxRecDepth 100000 in
theorem cont_test (b : Nat) (hb : b < 256) : ((bits BinOp.and IntKind.u8 (b : Int) 192) != (128 : Int)) = !(decide (b / 64 = 2)) := by
  have h1 := u8_and_nat b 192 hb (by omega)
  have h2 : ∀ x : Nat, x < 256 → ((x &&& 192) = 128 ↔ x / 64 = 2) := by decide
  rw [show ((192 : Nat) : Int) = 192 from rfl] at h1
  rw [h1, bne]
  congr 1
  rw [Bool.eq_iff_iff, beq_iff_eq, decide_eq_true_iff, ← h2 b hb]
  omega
set_option maxHeartbeats 1000000 in
theorem tRune_any (r : Nat) (w : World) : Calls Tryz.prog 151 #[.int .i32 (r : Nat)] w fun e w' => e = .returned (.bool (!decide (widN r = 0))) ∧ w = w' := by
  have hv : (!decide (widN r = 0)) = (decide (r ≤ 1114111) && (decide (r < 55296) || decide (57343 < r))) := by
    rw [Bool.eq_iff_iff]
    simp only [Bool.not_eq_true', decide_eq_false_iff_not, Bool.and_eq_true, Bool.or_eq_true, decide_eq_true_eq]
    unfold widN
    repeat' split
    all_goals omega
  rw [hv]
  have q0 : decide ((0 : Int) ≤ (r : Int)) = true := decide_eq_true (by omega)
  by_cases h1 : r ≤ 1114111
  · have q1 : decide ((r : Int) ≤ 1114111) = true := decide_eq_true (by omega)
    by_cases h2 : r < 55296
    · have q2 : decide ((r : Int) < 55296) = true := decide_eq_true (by omega)
      rw [decide_eq_true h1, decide_eq_true h2]
      clear h1 h2
      go_enter Tryz.func151, Tryz.ntmps151
      go_wp2
      go_ret
      exact ⟨rfl, rfl⟩
    · have q2 : decide ((r : Int) < 55296) = false := decide_eq_false (by omega)
      obtain ⟨q, hq⟩ : ∃ q, decide ((57343 : Int) < (r : Int)) = q := ⟨_, rfl⟩
      have hq2 : decide (57343 < r) = q := by rw [← hq]; exact decide_eq_decide.2 (by omega)
      rw [decide_eq_true h1, decide_eq_false h2, hq2]
      clear h1 h2 hq2
      go_enter Tryz.func151, Tryz.ntmps151
      go_wp2
      go_ret
      exact ⟨rfl, rfl⟩
  · have q1 : decide ((r : Int) ≤ 1114111) = false := decide_eq_false (by omega)
    rw [decide_eq_false h1]
    clear h1
    go_enter Tryz.func151, Tryz.ntmps151
    go_wp2
    go_ret
    exact ⟨rfl, rfl⟩
set_option maxHeartbeats 1000000 in
theorem tWidth_any (r : Nat) (w : World) : Calls Tryz.prog 120 #[.int .i32 (r : Nat)] w fun e w' => e = .returned (.int .i64 (widN r : Nat)) ∧ w = w' := by
  have HR := Lib.hid (tRune_any r w)
  by_cases h0 : widN r = 0
  · rw [decide_eq_true h0] at HR
    rw [h0]
    go_enter Tryz.func120, Tryz.ntmps120
    go_wp2_with fail
    refine HR.out.mono ?_
    rintro e w1 ⟨rfl, rfl⟩
    go_wp2
    go_ret
    exact ⟨rfl, rfl⟩
  rw [decide_eq_false h0] at HR
  have hg : ¬ (1114111 < r ∨ (55296 ≤ r ∧ r ≤ 57343)) := fun h => h0 (by unfold widN; rw [if_pos h])
  have hw : widN r = if r < 128 then 1 else if r < 2048 then 2 else if r < 65536 then 3 else 4 := by unfold widN; rw [if_neg hg]
  rw [hw]
  clear hw hg h0
  by_cases h1 : r < 128
  · have q1 : decide ((r : Int) < 128) = true := decide_eq_true (by omega)
    rw [if_pos h1]
    clear h1
    go_enter Tryz.func120, Tryz.ntmps120
    go_wp2_with fail
    refine HR.out.mono ?_
    rintro e w1 ⟨rfl, rfl⟩
    go_wp2
    go_ret
    exact ⟨rfl, rfl⟩
  have q1 : decide ((r : Int) < 128) = false := decide_eq_false (by omega)
  rw [if_neg h1]
  by_cases h2 : r < 2048
  · have q2 : decide ((r : Int) < 2048) = true := decide_eq_true (by omega)
    rw [if_pos h2]
    clear h1 h2
    go_enter Tryz.func120, Tryz.ntmps120
    go_wp2_with fail
    refine HR.out.mono ?_
    rintro e w1 ⟨rfl, rfl⟩
    go_wp2
    go_ret
    exact ⟨rfl, rfl⟩
  have q2 : decide ((r : Int) < 2048) = false := decide_eq_false (by omega)
  rw [if_neg h2]
  by_cases h3 : r < 65536
  · have q3 : decide ((r : Int) < 65536) = true := decide_eq_true (by omega)
    rw [if_pos h3]
    clear h1 h2 h3
    go_enter Tryz.func120, Tryz.ntmps120
    go_wp2_with fail
    refine HR.out.mono ?_
    rintro e w1 ⟨rfl, rfl⟩
    go_wp2
    go_ret
    exact ⟨rfl, rfl⟩
  have q3 : decide ((r : Int) < 65536) = false := decide_eq_false (by omega)
  rw [if_neg h3]
  clear h1 h2 h3
  go_enter Tryz.func120, Tryz.ntmps120
  go_wp2_with fail
  refine HR.out.mono ?_
  rintro e w1 ⟨rfl, rfl⟩
  go_wp2
  go_ret
  exact ⟨rfl, rfl⟩
set_option maxHeartbeats 1000000 in
theorem tlead_any (c : Nat) (hc : c < 256) (w : World) : Calls Tryz.prog 119 #[.int .u8 (c : Nat)] w fun e w' => e = .returned (.tuple #[.int .i64 ((leadN c).1 : Nat), .int .i32 ((leadN c).2 : Nat)]) ∧ w = w' := by
  have m31 : bits BinOp.and IntKind.u8 (c : Int) 31 = ((c % 32 : Nat) : Int) := by
    have h := u8_and_nat c 31 hc (by omega)
    rw [nat_mask5, show ((31 : Nat) : Int) = 31 from rfl] at h
    exact h
  have m15 : bits BinOp.and IntKind.u8 (c : Int) 15 = ((c % 16 : Nat) : Int) := by
    have h := u8_and_nat c 15 hc (by omega)
    rw [nat_mask4, show ((15 : Nat) : Int) = 15 from rfl] at h
    exact h
  have m7 : bits BinOp.and IntKind.u8 (c : Int) 7 = ((c % 8 : Nat) : Int) := by
    have h := u8_and_nat c 7 hc (by omega)
    rw [nat_mask3, show ((7 : Nat) : Int) = 7 from rfl] at h
    exact h
  obtain ⟨a, ha⟩ : ∃ a, c % 32 = a := ⟨_, rfl⟩
  obtain ⟨b, hb⟩ : ∃ b, c % 16 = b := ⟨_, rfl⟩
  obtain ⟨d, hd⟩ : ∃ d, c % 8 = d := ⟨_, rfl⟩
  have ha' : a < 32 := by omega
  have hb' : b < 16 := by omega
  have hd' : d < 8 := by omega
  by_cases h1 : c < 128
  · have q1 : decide ((c : Int) < 128) = true := decide_eq_true (by omega)
    have hv : leadN c = (1, c) := if_pos h1
    rw [hv]
    clear h1 m31 m15 m7 ha hb hd
    go_enter Tryz.func119, Tryz.ntmps119
    go_wp2
    go_ret2
    exact ⟨rfl, rfl⟩
  have q1 : decide ((c : Int) < 128) = false := decide_eq_false (by omega)
  by_cases h2 : 192 ≤ c ∧ c < 224
  · have q2 : decide ((192 : Int) ≤ (c : Int)) = true := decide_eq_true (by omega)
    have q3 : decide ((c : Int) < 224) = true := decide_eq_true (by omega)
    have hv : leadN c = (2, a) := by unfold leadN; rw [if_neg h1, if_pos h2, ha]
    rw [hv]
    rw [ha] at m31
    clear h1 h2 m15 m7 ha hb hd
    go_enter Tryz.func119, Tryz.ntmps119
    go_wp2
    go_ret2
    exact ⟨rfl, rfl⟩
  by_cases h3 : 224 ≤ c ∧ c < 240
  · have q2 : decide ((192 : Int) ≤ (c : Int)) = true := decide_eq_true (by omega)
    have q3 : decide ((c : Int) < 224) = false := decide_eq_false (by omega)
    have q4 : decide ((224 : Int) ≤ (c : Int)) = true := decide_eq_true (by omega)
    have q5 : decide ((c : Int) < 240) = true := decide_eq_true (by omega)
    have hv : leadN c = (3, b) := by unfold leadN; rw [if_neg h1, if_neg h2, if_pos h3, hb]
    rw [hv]
    rw [hb] at m15
    clear h1 h2 h3 m31 m7 ha hb hd
    go_enter Tryz.func119, Tryz.ntmps119
    go_wp2
    go_ret2
    exact ⟨rfl, rfl⟩
  by_cases h4 : 240 ≤ c ∧ c < 248
  · have q2 : decide ((192 : Int) ≤ (c : Int)) = true := decide_eq_true (by omega)
    have q3 : decide ((c : Int) < 224) = false := decide_eq_false (by omega)
    have q4 : decide ((224 : Int) ≤ (c : Int)) = true := decide_eq_true (by omega)
    have q5 : decide ((c : Int) < 240) = false := decide_eq_false (by omega)
    have q6 : decide ((240 : Int) ≤ (c : Int)) = true := decide_eq_true (by omega)
    have q7 : decide ((c : Int) < 248) = true := decide_eq_true (by omega)
    have hv : leadN c = (4, d) := by unfold leadN; rw [if_neg h1, if_neg h2, if_neg h3, if_pos h4, hd]
    rw [hv]
    rw [hd] at m7
    clear h1 h2 h3 h4 m31 m15 ha hb hd
    go_enter Tryz.func119, Tryz.ntmps119
    go_wp2
    go_ret2
    exact ⟨rfl, rfl⟩
  have hv : leadN c = (0, 0) := by unfold leadN; rw [if_neg h1, if_neg h2, if_neg h3, if_neg h4]
  rw [hv]
  clear m31 m15 m7 ha hb hd hv
  by_cases h5 : c < 192
  · have q2 : decide ((192 : Int) ≤ (c : Int)) = false := decide_eq_false (by omega)
    have q4 : decide ((224 : Int) ≤ (c : Int)) = false := decide_eq_false (by omega)
    have q6 : decide ((240 : Int) ≤ (c : Int)) = false := decide_eq_false (by omega)
    clear h1 h2 h3 h4 h5
    go_enter Tryz.func119, Tryz.ntmps119
    go_wp2
    go_ret2
    exact ⟨rfl, rfl⟩
  · have q2 : decide ((192 : Int) ≤ (c : Int)) = true := decide_eq_true (by omega)
    have q3 : decide ((c : Int) < 224) = false := decide_eq_false (by omega)
    have q4 : decide ((224 : Int) ≤ (c : Int)) = true := decide_eq_true (by omega)
    have q5 : decide ((c : Int) < 240) = false := decide_eq_false (by omega)
    have q6 : decide ((240 : Int) ≤ (c : Int)) = true := decide_eq_true (by omega)
    have q7 : decide ((c : Int) < 248) = false := decide_eq_false (by omega)
    clear h1 h2 h3 h4 h5
    go_enter Tryz.func119, Tryz.ntmps119
    go_wp2
    go_ret2
    exact ⟨rfl, rfl⟩
theorem get_at (s : ByteArray) {p : Nat} (hp : p < s.size) : s.get! p = s[p]'hp := by
  rw [← Lib.getD_get!', List.getD_eq_getElem?_getD, List.getElem?_eq_getElem (by rw [size_data]; exact hp)]; rfl
set_option maxRecDepth 100000 in
set_option maxHeartbeats 4000000 in
theorem tDecode_any (s : ByteArray) (w : World) (hs : 0 < s.size) (hz : s.size ≤ 1000000) :
    Calls Tryz.prog 105 #[.string s] w fun e w' => e = .returned (.tuple #[.int .i32 ((Utf8.decode s 0).1 : Nat), .int .i64 ((Utf8.decode s 0).2 : Nat)]) ∧ w = w' := by
  obtain ⟨g, hg⟩ : ∃ g : Nat → Nat, g = fun j => (s.get! j).toNat := ⟨_, rfl⟩
  have hg0 : ∀ j, g j < 256 := fun j => by rw [hg]; exact (s.get! j).toNat_lt
  have HI := Lib.hid (fun (p : Nat) (hp : p < s.size) => show ((s[p]'hp).toNat : Int) = (g p : Int) by rw [hg]; simp only; rw [get_at s hp])
  have HD : Hid (Utf8.decode s 0 = Lib.decodeN s.size (g 0) (g 1) (g 2) (g 3)) := Lib.hid (by rw [hg]; exact Lib.decode_at s 0)
  clear hg
  obtain ⟨⟨k, m⟩, HL⟩ : ∃ x, Hid (leadN (g 0) = x) := ⟨_, Lib.hid rfl⟩
  have hk4 : k ≤ 4 := by have := lead_le (g 0) (hg0 0); rw [HL.out] at this; exact this
  have HLd := Lib.hid (fun W => tlead_any (g 0) (hg0 0) W)
  rw [HL.out] at HLd
  simp only at HLd
  have hx0 : ∀ W ty, (Instr.index ty (.string s) (.int .i64 0)).run Tryz.prog W = (Instr.index ty (.string s) (.int .i64 0)).run Tryz.prog W := fun _ _ => rfl
  clear hx0
  have hi0 : ∀ W, (Instr.index 9 (.string s) (.int .i64 0)).run Tryz.prog W = .ok (.int .u8 (g 0 : Int)) W := fun W => by rw [index_at s 0 0 rfl hs W, HI.out 0 hs]
  have hsz : ((s.size : Int) == 0) = false := beq_eq_false_iff_ne.2 (by omega)
  by_cases hk0 : k = 0
  · subst hk0
    have HV : Hid (Utf8.decode s 0 = (65533, 1)) := Lib.hid (by rw [HD.out]; exact ref_none (by rw [HL.out]) (hg0 0))
    rw [HV.out]
    go_enter Tryz.func105, Tryz.ntmps105
    go_wp2_with fail
    refine (HLd.out _).mono ?_
    rintro e w1 ⟨rfl, rfl⟩
    go_wp2
    go_ret2
    exact ⟨rfl, rfl⟩
  have hk0' : ((k : Int) == 0) = false := beq_eq_false_iff_ne.2 (by omega)
  by_cases hkn : s.size < k
  · have HV : Hid (Utf8.decode s 0 = (65533, 1)) := Lib.hid (by rw [HD.out]; exact ref_short (by rw [HL.out]; exact hkn) hs (hg0 0))
    rw [HV.out]
    have q1 : decide (s.size < k) = true := decide_eq_true hkn
    clear hkn hk0
    go_enter Tryz.func105, Tryz.ntmps105
    go_wp2_with fail
    refine (HLd.out _).mono ?_
    rintro e w1 ⟨rfl, rfl⟩
    go_wp2
    go_ret2
    exact ⟨rfl, rfl⟩
  have q1 : decide (s.size < k) = false := decide_eq_false hkn
  have hkn' : k ≤ s.size := by omega
  have hk1 : 1 ≤ k := by omega
  have HB := Lib.hid (fun j (hj : j < k) => show foldN g m j < 2097152 from by have := fold_bd (g := g) (hg0 0) j (by rw [HL.out]; exact hj); rw [HL.out] at this; exact this)
  have HC := Lib.hid (fun j (h1 : 1 ≤ j) (hj : j < k) (h : g j / 64 ≠ 2) => show Utf8.decode s 0 = (65533, 1) by rw [HD.out]; exact ref_cont h1 (by rw [HL.out]; exact hj) h (hg0 0))
  have HE := Lib.hid (fun (hc : ∀ j, 1 ≤ j → j < k → g j / 64 = 2) => ref_end (n := s.size) HL.out hk0 hkn' hc (hg0 0) rfl)
  rw [← HD.out] at HE
  have HW := Lib.hid (fun r W => tWidth_any r W)
  clear hkn hk0
  go_enter Tryz.func105, Tryz.ntmps105
  go_wp2_with fail
  refine (HLd.out _).mono ?_
  rintro e w1 ⟨rfl, rfl⟩
  go_wp2_with fail
  go_loopw [5, 6] (fun u v wr => ∃ j : Nat, u = .int .i32 ((foldN g m j : Nat) : Int) ∧ v = .int .i64 ((j + 1 : Nat) : Int) ∧ j + 1 ≤ k ∧ Hid (∀ i, 1 ≤ i → i < j + 1 → g i / 64 = 2) ∧ wr = w) (fun _ v _ => k - (intOf v).toNat)
  case atStart => exact ⟨0, rfl, rfl, by omega, Lib.hid (fun i h1 h2 => by omega), rfl⟩
  case round =>
    obtain ⟨j, rfl, rfl, hj, HO, rfl⟩ := hrel
    obtain ⟨i, Hi⟩ : ∃ i, Hid (j + 1 = i) := ⟨_, Lib.hid rfl⟩
    rw [Hi.out] at HO hj ⊢
    by_cases hlt : i < k
    · have hb := HB.out j (by have := Hi.out; omega)
      have hib : i < s.size := by omega
      have hidx : ∀ W, (Instr.index 9 (.string s) (.int .i64 (i : Nat))).run Tryz.prog W = .ok (.int .u8 (g i : Int)) W := fun W => by rw [index_at s i i rfl hib W, HI.out i hib]
      have ht := cont_test (g i) (hg0 i)
      by_cases hc : g i / 64 = 2
      · have m63 : bits BinOp.and IntKind.u8 (g i : Int) 63 = ((g i % 64 : Nat) : Int) := by
          have h := u8_and_nat (g i) 63 (hg0 i) (by omega)
          rw [nat_mask6, show ((63 : Nat) : Int) = 63 from rfl] at h
          exact h
        have Hf := Lib.hid (show foldN g m i = foldN g m j * 64 + g i % 64 by rw [← Hi.out]; rfl)
        have HO2 := Lib.hid (fun x h1 h2 => show g x / 64 = 2 by
          rcases (by omega : x < i ∨ x = i) with h3 | h3
          · exact HO.out x h1 h3
          · rw [h3]; exact hc)
        rw [decide_eq_true hc] at ht
        obtain ⟨c6, hc6⟩ : ∃ c6, g i % 64 = c6 := ⟨_, rfl⟩
        have hc64 : c6 < 64 := by omega
        rw [hc6] at m63 Hf
        generalize foldN g m j = f at hb Hf ⊢
        have hor : bits BinOp.or IntKind.i32 ((f : Int) * 64) (c6 : Int) = ((f * 64 + c6 : Nat) : Int) := by
          have := i32_or6 (x := (f : Int) * 64) (y := (c6 : Int)) (by omega) (by omega) (by omega) (by omega) (by omega)
          rw [this]; omega
        clear hc hc6
        go_wp2
        go_roundw
        case rel => exact ⟨i, by rw [Hf.out]; congr 1, by congr 1, by omega, Lib.hid (fun x h1 h2 => HO2.out x h1 (by omega)), by first | rfl | trivial⟩
        case measure => simp [intOf]; omega
      · have HV := Lib.hid (HC.out i (by have := Hi.out; omega) hlt hc)
        rw [decide_eq_false hc] at ht
        clear hc
        go_wp2
        go_ret2
        exact ⟨by rw [HV.out]; rfl, rfl⟩
    · obtain rfl : i = k := by omega
      have HE2 := Lib.hid (HE.out HO.out)
      have e3 : i - 1 = j := by have := Hi.out; omega
      rw [e3] at HE2
      have HWf := Lib.hid (fun W => HW.out (foldN g m j) W)
      generalize foldN g m j = f at HE2 HWf ⊢
      obtain ⟨wd, Hwd⟩ : ∃ x, Hid (widN f = x) := ⟨_, Lib.hid rfl⟩
      rw [Hwd.out] at HWf HE2
      by_cases hw : wd = i
      · have HV := Lib.hid (HE2.out.1 hw)
        have t5 : ((wd : Int) != (i : Int)) = false := by rw [hw]; simp
        clear hw e3
        go_wp2_with fail
        refine (HWf.out _).mono ?_
        rintro e w3 ⟨rfl, rfl⟩
        go_wp2
        go_ret2
        exact ⟨by rw [HV.out]; rfl, rfl⟩
      · have HV := Lib.hid (HE2.out.2 hw)
        have t5 : ((wd : Int) != (i : Int)) = true := by rw [bne_iff_ne]; omega
        clear hw e3
        go_wp2_with fail
        refine (HWf.out _).mono ?_
        rintro e w3 ⟨rfl, rfl⟩
        go_wp2
        go_ret2
        exact ⟨by rw [HV.out]; rfl, rfl⟩
end Go.Proofs.YtdnkignhenkamaaGreatDoor

/- -/
namespace Go.Proofs.YtdnkignhenkamaaGreatDoor
end Go.Proofs.YtdnkignhenkamaaGreatDoor

/- -/
namespace Go.Proofs.YtdnkignhenkamaaGreatDoor
end Go.Proofs.YtdnkignhenkamaaGreatDoor

/- -/
namespace Go.Proofs.YtdnkignhenkamaaGreatDoor
theorem lastStart_eq (l : List UInt8) : Lib.lastStart l = if l.length < 2 then 0 else if Lib.runeStartB (l.getD (l.length - 2) 0) = true then l.length - 2 else if l.length < 3 then 0 else if Lib.runeStartB (l.getD (l.length - 3) 0) = true then l.length - 3 else if l.length < 4 then 0 else if Lib.runeStartB (l.getD (l.length - 4) 0) = true then l.length - 4 else if l.length < 5 then 0 else l.length - 5 := rfl
theorem start_iff (b : UInt8) : Lib.runeStartB b = true ↔ b.toNat / 64 ≠ 2 := by unfold Lib.runeStartB; simp
theorem dec_drop (s : ByteArray) (k : Nat) : Lib.decodeL (s.data.toList.drop k) = Utf8.decode s k := by
  unfold Lib.decodeL
  have h := Lib.tail_decode s k 0
  rw [Nat.add_zero] at h
  rw [← h]
  congr 1
  have : (s.extract k s.size).data.toList = s.data.toList.drop k := by
    rw [ByteArray.data_extract, Array.toList_extract, List.extract_eq_take_drop, List.take_of_length_le (by rw [List.length_drop, size_data]; exact Nat.le_refl _)]
  rw [← this]
theorem last_rune (s : ByteArray) {x : Nat × Nat × Nat} (hx : x ∈ runesP s) (he : x.2.2 = s.size) : Lib.decodeLastL s.data.toList = (x.1, x.2.2 - x.2.1) := by
  have hb := runesP_bd x hx
  have hd := runesGo_dec _ _ x hx
  have hsz := size_data s
  have hget : ∀ k, s.data.toList.getD k 0 = s.get! k := fun k => Lib.getD_get!' s k
  have hne : s.data.toList ≠ [] := fun h => by rw [h] at hsz; simp at hsz; omega
  -- no other rune ends there
  have huniq : ∀ y ∈ runesP s, y.2.1 < s.size → x.2.1 ≤ y.2.1 → y.2.1 = x.2.1 := fun y hy h1 h2 => by
    rcases Nat.lt_or_ge x.2.1 y.2.1 with h3 | h3
    · exact absurd ⟨h3, by omega⟩ (place_gap s _ 0 s.size (runesP_contig s) x hx y hy)
    · omega
  unfold Lib.decodeLastL
  rw [if_neg hne, hsz, hget]
  by_cases hasc : (s.get! (s.size - 1)).toNat < 128
  · rw [if_pos hasc]
    obtain ⟨y, hy, e⟩ := ascii_at s (z := s.size - 1) (by omega) hasc s.size 0 (by omega) (Nat.zero_le _)
    have := huniq y hy (by omega) (by omega)
    have hp : x.2.1 = s.size - 1 := by omega
    rw [hp, Lib.decode_at] at hd
    unfold Lib.decodeN at hd
    rw [if_pos hasc] at hd
    rw [hp, ← hd]
  · rw [if_neg hasc]
    have hst : Lib.lastStart s.data.toList < s.size ∧ (Lib.lastStart s.data.toList + 1 = s.size → s.size = 1) := by
      rw [lastStart_eq, hsz]
      repeat' split
      all_goals omega
    rw [dec_drop s _]
    simp only
    rcases Nat.lt_or_ge (x.2.2 - x.2.1) 2 with hW | hW
    · -- one byte
      have hp : x.2.1 = s.size - 1 := by omega
      have hW1 : x.2.2 - x.2.1 = 1 := by omega
      have hR : x.1 = 65533 := by
        rw [hW1, hp, Lib.decode_at] at hd
        unfold Lib.decodeN at hd
        rw [if_neg hasc] at hd
        repeat' split at hd
        all_goals (injection hd with h1 h2; omega)
      obtain ⟨⟨R', W'⟩, hD⟩ : ∃ d, Utf8.decode s (Lib.lastStart s.data.toList) = d := ⟨_, rfl⟩
      have hbd := dec_bd s _ hst.1
      rw [hD] at hbd ⊢
      simp only at hbd ⊢
      split
      · rename_i hsum
        rcases Nat.lt_or_ge W' 2 with h1 | h1
        · have h0 : Lib.lastStart s.data.toList = x.2.1 := by have := hst.2 (by omega); omega
          rw [h0, hd] at hD
          exact hD.symm
        · exfalso
          have hl := dec_lead hD h1
          obtain ⟨y, hy, e⟩ := lead_at s hst.1 (by omega) s.size 0 (by omega) (Nat.zero_le _)
          have hdy := runesGo_dec _ _ y hy
          rw [e, hD] at hdy
          injection hdy with _ h2
          have hby := runesP_bd y hy
          exact place_gap s _ 0 s.size (runesP_contig s) y hy x hx (by omega)
      · rw [hR, hW1]; rfl
    · -- several bytes
      have hl := dec_lead hd hW
      have htail : ∀ k, 0 < k → k < x.2.2 - x.2.1 → ¬ Lib.runeStartB (s.data.toList.getD (x.2.1 + k) 0) = true := fun k h0 h1 => by
        rw [start_iff, hget]
        have := dec_tail hd h0 h1
        omega
      have hlead : Lib.runeStartB (s.data.toList.getD x.2.1 0) = true := by rw [start_iff, hget]; omega
      have hls : Lib.lastStart s.data.toList = x.2.1 := by
        rw [lastStart_eq, hsz]
        rcases (show x.2.2 - x.2.1 = 2 ∨ x.2.2 - x.2.1 = 3 ∨ x.2.2 - x.2.1 = 4 by omega) with h | h | h
        · rw [if_neg (by omega), show s.size - 2 = x.2.1 by omega, if_pos hlead]
        · rw [if_neg (by omega), show s.size - 2 = x.2.1 + 1 by omega, if_neg (htail 1 (by omega) (by omega)), if_neg (by omega), show s.size - 3 = x.2.1 by omega, if_pos hlead]
        · rw [if_neg (by omega), show s.size - 2 = x.2.1 + 2 by omega, if_neg (htail 2 (by omega) (by omega)), if_neg (by omega), show s.size - 3 = x.2.1 + 1 by omega, if_neg (htail 1 (by omega) (by omega)), if_neg (by omega), show s.size - 4 = x.2.1 by omega, if_pos hlead]
      rw [hls, hd, if_pos (by simp only; omega)]
end Go.Proofs.YtdnkignhenkamaaGreatDoor

