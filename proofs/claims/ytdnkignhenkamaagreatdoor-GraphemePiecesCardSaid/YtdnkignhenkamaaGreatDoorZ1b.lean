/-
  Several texts in one, in their build order: PrsL, PrsC, PrsG, PrsD, Grow, Upper, Repeat, Spell, Join, TrD, Ds, PrsE, SenP, PrsS.
-/
import Derived.Lib.Builder
import Derived.Lib.FrozenHead2
import Derived.Laws.BitsAllLaws
import Derived.Laws.Bits
import Derived.Test.YtdnkignhenkamaaGreatDoorZ1a
import Derived.Test.YtdnkignhenkamaaGreatDoorZ0a
import Derived.Test.YtdnkignhenkamaaGreatDoorZShelf
/- -/
namespace Go.Proofs.YtdnkignhenkamaaGreatDoor
abbrev Mtx := Nat → Nat → Bool
def ownM : Mtx := fun i k => decide (i = k)
def noneM : Mtx := fun _ _ => false
def bothM (a b : Mtx) : Mtx := fun i k => a i k || b i k
def behindM (n : Nat) (a b : Mtx) : Mtx := fun i j => (List.range n).any fun k => a i k && b k j
def warS (k i : Nat) (m : Mtx) : Mtx := fun x j => m x j || (decide (x = i) && m i k && m k j)
def warRow (n k : Nat) (m : Mtx) : Mtx := (List.range n).foldl (fun m i => warS k i m) m
def moreM (n : Nat) (a : Mtx) : Mtx := (List.range n).foldl (fun m k => warRow n k m) (bothM a ownM)
def setM (c cs : List Nat) : Mtx := fun i k => decide (k = i + 1) && ((c[i]?).map fun x => cs.contains x).getD false
mutual
def leadsP (c : List Nat) : Pat → Mtx
  | .node op cs ks =>
    if op = 1 then setM c cs
    else if op = 2 then thenP c ks ownM
    else if op = 3 then orP c ks noneM
    else if op = 4 then moreM (c.length + 1) (headP c ks)
    else if op = 5 then behindM (c.length + 1) (headP c ks) (moreM (c.length + 1) (headP c ks))
    else if op = 6 then bothM ownM (headP c ks)
    else ownM
def thenP (c : List Nat) : List Pat → Mtx → Mtx
  | [], m => m
  | p :: r, m => thenP c r (behindM (c.length + 1) m (leadsP c p))
def orP (c : List Nat) : List Pat → Mtx → Mtx
  | [], m => m
  | p :: r, m => orP c r (bothM m (leadsP c p))
def headP (c : List Nat) : List Pat → Mtx
  | [] => ownM
  | p :: _ => leadsP c p
end
theorem warS_eq (k i : Nat) (m : Mtx) (x j : Nat) : warS k i m x j = (m x j || (decide (x = i) && m i k && m k j)) := rfl
theorem warRow_go (k : Nat) (m : Mtx) : ∀ (z : Nat) (x j : Nat), (List.range z).foldl (fun m i => warS k i m) m x j = (m x j || (decide (x < z) && m x k && m k j))
  | 0, x, j => by simp
  | z + 1, x, j => by
    rw [List.range_succ, List.foldl_append, List.foldl_cons, List.foldl_nil, warS_eq, warRow_go k m z x j, warRow_go k m z z k, warRow_go k m z k j]
    have e1 : decide (x < z + 1) = (decide (x < z) || decide (x = z)) := by
      rw [← Bool.decide_or]; congr 1; apply propext; omega
    have e2 : decide (z < z) = false := by simp
    rw [e1, e2]
    by_cases h : x = z
    · subst h
      cases m x j <;> cases m x k <;> cases m k j <;> simp
    · simp [h]
theorem warRow_eq (n k : Nat) (m : Mtx) (x j : Nat) : warRow n k m x j = (m x j || (decide (x < n) && m x k && m k j)) := warRow_go k m n x j
inductive Way (n : Nat) (a : Mtx) : Nat → Nat → Prop
  | here (i : Nat) : Way n a i i
  | on {i k j : Nat} : a i k = true → k < n → Way n a k j → Way n a i j
theorem Way.trans {n : Nat} {a : Mtx} {i k j : Nat} (h : Way n a i k) (g : Way n a k j) : Way n a i j := by
  induction h with
  | here => exact g
  | on h1 h2 _ ih => exact .on h1 h2 (ih g)
inductive WayZ (z : Nat) (a : Mtx) : Nat → Nat → Prop
  | none (i : Nat) : WayZ z a i i
  | one {i j : Nat} : a i j = true → WayZ z a i j
  | on {i k j : Nat} : a i k = true → k < z → WayZ z a k j → WayZ z a i j
theorem WayZ.via {z : Nat} {a : Mtx} {i j : Nat} (h : WayZ (z + 1) a i j) : WayZ z a i j ∨ (WayZ z a i z ∧ WayZ z a z j) := by
  induction h with
  | none i => exact .inl (.none i)
  | one h => exact .inl (.one h)
  | @on i k j h1 h2 _ ih =>
    by_cases hk : k = z
    · subst hk
      rcases ih with ih | ⟨_, ih⟩
      · exact .inr ⟨.one h1, ih⟩
      · exact .inr ⟨.one h1, ih⟩
    · rcases ih with ih | ⟨ih1, ih2⟩
      · exact .inl (.on h1 (by omega) ih)
      · exact .inr ⟨.on h1 (by omega) ih1, ih2⟩
theorem more_go {n : Nat} {a : Mtx} : ∀ (z : Nat), z ≤ n → ∀ (i j : Nat), i < n → j < n →
    ((List.range z).foldl (fun m k => warRow n k m) (bothM a ownM) i j = true → Way n a i j) ∧ (WayZ z a i j → (List.range z).foldl (fun m k => warRow n k m) (bothM a ownM) i j = true)
  | 0, _, i, j, hi, hj => by
    refine ⟨fun h => ?_, fun h => ?_⟩
    · simp only [List.range_zero, List.foldl_nil, bothM, ownM, Bool.or_eq_true, decide_eq_true_eq] at h
      rcases h with h | rfl
      · exact .on h hj (.here _)
      · exact .here _
    · simp only [List.range_zero, List.foldl_nil, bothM, ownM, Bool.or_eq_true, decide_eq_true_eq]
      cases h with
      | none => exact .inr rfl
      | one h => exact .inl h
      | on _ h _ => exact absurd h (Nat.not_lt_zero _)
  | z + 1, hz, i, j, hi, hj => by
    have ih := fun i j hi hj => more_go (n := n) (a := a) z (by omega) i j hi hj
    rw [List.range_succ, List.foldl_append, List.foldl_cons, List.foldl_nil, warRow_eq]
    simp only [Bool.or_eq_true, Bool.and_eq_true, decide_eq_true_eq]
    refine ⟨fun h => ?_, fun h => ?_⟩
    · rcases h with h | ⟨⟨_, h1⟩, h2⟩
      · exact (ih i j hi hj).1 h
      · exact ((ih i z hi (by omega)).1 h1).trans ((ih z j (by omega) hj).1 h2)
    · rcases h.via with h | ⟨h1, h2⟩
      · exact .inl ((ih i j hi hj).2 h)
      · exact .inr ⟨⟨hi, (ih i z hi (by omega)).2 h1⟩, (ih z j (by omega) hj).2 h2⟩
theorem Way.z {n : Nat} {a : Mtx} {i j : Nat} (h : Way n a i j) : WayZ n a i j := by
  induction h with
  | here i => exact .none i
  | on h1 h2 _ ih => exact .on h1 h2 ih
theorem more_iff {n : Nat} {a : Mtx} {i j : Nat} (hi : i < n) (hj : j < n) : moreM n a i j = true ↔ Way n a i j :=
  ⟨(more_go n (Nat.le_refl _) i j hi hj).1, fun h => (more_go n (Nat.le_refl _) i j hi hj).2 h.z⟩
inductive Star (L : List Nat → Prop) : List Nat → Prop
  | nil : Star L []
  | app {u v : List Nat} : L u → Star L v → Star L (u ++ v)
mutual
def Lang : Pat → List Nat → Prop
  | .node op cs ks => fun u =>
    if op = 1 then ∃ x, u = [x] ∧ x ∈ cs
    else if op = 2 then LangT ks u
    else if op = 3 then LangO ks u
    else if op = 4 then Star (LangH ks) u
    else if op = 5 then ∃ v w, u = v ++ w ∧ LangH ks v ∧ Star (LangH ks) w
    else if op = 6 then u = [] ∨ LangH ks u
    else u = []
def LangT : List Pat → List Nat → Prop
  | [] => fun u => u = []
  | p :: r => fun u => ∃ v w, u = v ++ w ∧ Lang p v ∧ LangT r w
def LangO : List Pat → List Nat → Prop
  | [] => fun _ => False
  | p :: r => fun u => Lang p u ∨ LangO r u
def LangH : List Pat → List Nat → Prop
  | [] => fun u => u = []
  | p :: _ => Lang p
end
def part (c : List Nat) (i k : Nat) : List Nat := (c.drop i).take (k - i)
def Tells (c : List Nat) (m : Mtx) (L : List Nat → Prop) : Prop := ∀ i k, i ≤ c.length → k ≤ c.length → (m i k = true ↔ i ≤ k ∧ L (part c i k))
theorem part_app (c : List Nat) {i k j : Nat} (h1 : i ≤ k) (h2 : k ≤ j) : part c i j = part c i k ++ part c k j := by
  unfold part
  rw [show j - i = (k - i) + (j - k) by omega, List.take_add, List.drop_drop, show i + (k - i) = k by omega]
theorem part_len (c : List Nat) {i k : Nat} (h2 : k ≤ c.length) : (part c i k).length = k - i := by
  unfold part; rw [List.length_take, List.length_drop]; omega
theorem part_nil {c : List Nat} {i k : Nat} (h1 : i ≤ k) (h2 : k ≤ c.length) (h : part c i k = []) : i = k := by
  have := part_len c (i := i) h2
  rw [h] at this
  simp at this
  omega
theorem part_split {c : List Nat} {i j : Nat} {u v : List Nat} (h1 : i ≤ j) (h2 : j ≤ c.length) (h : part c i j = u ++ v) : i + u.length ≤ j ∧ part c i (i + u.length) = u ∧ part c (i + u.length) j = v := by
  have hl := congrArg List.length h
  rw [part_len c h2, List.length_append] at hl
  have hk : i + u.length ≤ j := by omega
  have h3 := part_app c (Nat.le_add_right i u.length) hk
  rw [h] at h3
  have h4 := List.append_inj h3 (by rw [part_len c (by omega)]; omega)
  exact ⟨hk, h4.1.symm, h4.2.symm⟩
theorem tells_own (c : List Nat) : Tells c ownM (fun u => u = []) := fun i k _ hk => by
  simp only [ownM, decide_eq_true_eq]
  refine ⟨fun h => ?_, fun h => part_nil h.1 hk h.2⟩
  subst h
  exact ⟨Nat.le_refl _, by simp [part]⟩
theorem tells_none (c : List Nat) : Tells c noneM (fun _ => False) := fun i k _ _ => by simp [noneM]
theorem tells_both {c : List Nat} {a b : Mtx} {L M : List Nat → Prop} (ha : Tells c a L) (hb : Tells c b M) : Tells c (bothM a b) (fun u => L u ∨ M u) := fun i k hi hk => by
  simp only [bothM, Bool.or_eq_true, ha i k hi hk, hb i k hi hk]
  exact ⟨fun h => h.elim (fun h => ⟨h.1, .inl h.2⟩) (fun h => ⟨h.1, .inr h.2⟩), fun h => h.2.elim (fun g => .inl ⟨h.1, g⟩) (fun g => .inr ⟨h.1, g⟩)⟩
theorem tells_behind {c : List Nat} {a b : Mtx} {L M : List Nat → Prop} (ha : Tells c a L) (hb : Tells c b M) : Tells c (behindM (c.length + 1) a b) (fun u => ∃ v w, u = v ++ w ∧ L v ∧ M w) := fun i j hi hj => by
  simp only [behindM, List.any_eq_true, List.mem_range, Bool.and_eq_true]
  constructor
  · rintro ⟨k, hk, h1, h2⟩
    have h1 := (ha i k hi (by omega)).1 h1
    have h2 := (hb k j (by omega) hj).1 h2
    exact ⟨Nat.le_trans h1.1 h2.1, _, _, part_app c h1.1 h2.1, h1.2, h2.2⟩
  · rintro ⟨hij, v, w, h, hv, hw⟩
    obtain ⟨h1, h2, h3⟩ := part_split hij hj h
    exact ⟨i + v.length, by omega, (ha _ _ hi (by omega)).2 ⟨by omega, by rw [h2]; exact hv⟩, (hb _ _ (by omega) hj).2 ⟨h1, by rw [h3]; exact hw⟩⟩
theorem tells_more {c : List Nat} {a : Mtx} {L : List Nat → Prop} (ha : Tells c a L) : Tells c (moreM (c.length + 1) a) (Star L) := fun i j hi hj => by
  rw [more_iff (by omega) (by omega)]
  constructor
  · intro h
    induction h with
    | here i => exact ⟨Nat.le_refl _, by simp only [part, Nat.sub_self, List.take_zero]; exact .nil⟩
    | @on i k j h1 h2 _ ih =>
      have h1 := (ha i k hi (by omega)).1 h1
      have ih := ih (by omega) hj
      exact ⟨Nat.le_trans h1.1 ih.1, by rw [part_app c h1.1 ih.1]; exact .app h1.2 ih.2⟩
  · rintro ⟨hij, h⟩
    generalize hu : part c i j = u at h
    induction h generalizing i with
    | nil => rw [part_nil hij hj hu]; exact .here _
    | @app u v h1 _ ih =>
      obtain ⟨g1, g2, g3⟩ := part_split hij hj hu
      exact .on ((ha _ _ hi (by omega)).2 ⟨by omega, by rw [g2]; exact h1⟩) (by omega) (ih (i + u.length) (by omega) g1 g3)
theorem tells_set (c cs : List Nat) : Tells c (setM c cs) (fun u => ∃ x, u = [x] ∧ x ∈ cs) := fun i k hi hk => by
  simp only [setM, Bool.and_eq_true, decide_eq_true_eq]
  constructor
  · rintro ⟨rfl, h⟩
    cases hx : c[i]? with
    | none => rw [hx] at h; simp at h
    | some x =>
      rw [hx] at h
      refine ⟨by omega, x, ?_, by simpa using h⟩
      have hlt := (List.getElem?_eq_some_iff.1 hx).1
      unfold part
      rw [List.drop_eq_getElem_cons hlt, show i + 1 - i = 0 + 1 by omega, List.take_succ_cons, List.take_zero, (List.getElem?_eq_some_iff.1 hx).2]
  · rintro ⟨hik, x, h, hx⟩
    have hl := congrArg List.length h
    rw [part_len c hk] at hl
    simp at hl
    obtain rfl : k = i + 1 := by omega
    have hlt : i < c.length := by omega
    unfold part at h
    rw [List.drop_eq_getElem_cons hlt, show i + 1 - i = 0 + 1 by omega, List.take_succ_cons, List.take_zero] at h
    injection h with h
    refine ⟨rfl, ?_⟩
    rw [List.getElem?_eq_getElem hlt, h]
    simpa using hx
theorem Tells.congr {c : List Nat} {m : Mtx} {L M : List Nat → Prop} (h : Tells c m L) (hLM : ∀ u, L u ↔ M u) : Tells c m M := fun i k hi hk => by rw [h i k hi hk, hLM]
mutual
theorem leads_tells (c : List Nat) : ∀ (p : Pat), Tells c (leadsP c p) (Lang p)
  | .node op cs ks => by
    unfold leadsP Lang
    by_cases h1 : op = 1
    · rw [if_pos h1]; simp only [if_pos h1]; exact tells_set c cs
    by_cases h2 : op = 2
    · rw [if_neg h1, if_pos h2]; simp only [if_neg h1, if_pos h2]
      exact (thenP_tells c ks (tells_own c)).congr fun u => ⟨fun ⟨v, w, e, hv, hw⟩ => by subst hv; rw [e]; exact hw, fun h => ⟨[], u, rfl, rfl, h⟩⟩
    by_cases h3 : op = 3
    · rw [if_neg h1, if_neg h2, if_pos h3]; simp only [if_neg h1, if_neg h2, if_pos h3]
      exact (orP_tells c ks (tells_none c)).congr fun u => ⟨fun h => h.elim False.elim id, .inr⟩
    by_cases h4 : op = 4
    · rw [if_neg h1, if_neg h2, if_neg h3, if_pos h4]; simp only [if_neg h1, if_neg h2, if_neg h3, if_pos h4]
      exact tells_more (headP_tells c ks)
    by_cases h5 : op = 5
    · rw [if_neg h1, if_neg h2, if_neg h3, if_neg h4, if_pos h5]; simp only [if_neg h1, if_neg h2, if_neg h3, if_neg h4, if_pos h5]
      exact tells_behind (headP_tells c ks) (tells_more (headP_tells c ks))
    by_cases h6 : op = 6
    · rw [if_neg h1, if_neg h2, if_neg h3, if_neg h4, if_neg h5, if_pos h6]; simp only [if_neg h1, if_neg h2, if_neg h3, if_neg h4, if_neg h5, if_pos h6]
      exact tells_both (tells_own c) (headP_tells c ks)
    rw [if_neg h1, if_neg h2, if_neg h3, if_neg h4, if_neg h5, if_neg h6]; simp only [if_neg h1, if_neg h2, if_neg h3, if_neg h4, if_neg h5, if_neg h6]
    exact tells_own c
theorem thenP_tells (c : List Nat) : ∀ (ks : List Pat) {m : Mtx} {L : List Nat → Prop}, Tells c m L → Tells c (thenP c ks m) (fun u => ∃ v w, u = v ++ w ∧ L v ∧ LangT ks w)
  | [], m, L, h => by
    unfold thenP LangT
    exact h.congr fun u => ⟨fun hu => ⟨u, [], by simp, hu, rfl⟩, fun ⟨v, w, e, hv, hw⟩ => by subst hw; rw [e, List.append_nil]; exact hv⟩
  | p :: r, m, L, h => by
    unfold thenP LangT
    refine (thenP_tells c r (tells_behind h (leads_tells c p))).congr fun u => ⟨?_, ?_⟩
    · rintro ⟨_, w, rfl, ⟨v1, v2, rfl, h1, h2⟩, h3⟩
      exact ⟨v1, v2 ++ w, by simp, h1, v2, w, rfl, h2, h3⟩
    · rintro ⟨v1, _, rfl, h1, v2, w, rfl, h2, h3⟩
      exact ⟨v1 ++ v2, w, by simp, ⟨v1, v2, rfl, h1, h2⟩, h3⟩
theorem orP_tells (c : List Nat) : ∀ (ks : List Pat) {m : Mtx} {L : List Nat → Prop}, Tells c m L → Tells c (orP c ks m) (fun u => L u ∨ LangO ks u)
  | [], m, L, h => by
    unfold orP LangO
    exact h.congr fun u => ⟨.inl, fun h => h.elim id False.elim⟩
  | p :: r, m, L, h => by
    unfold orP LangO
    refine (orP_tells c r (tells_both h (leads_tells c p))).congr fun u => ⟨?_, ?_⟩
    · rintro ((h | h) | h)
      · exact .inl h
      · exact .inr (.inl h)
      · exact .inr (.inr h)
    · rintro (h | h | h)
      · exact .inl (.inl h)
      · exact .inl (.inr h)
      · exact .inr h
theorem headP_tells (c : List Nat) : ∀ (ks : List Pat), Tells c (headP c ks) (LangH ks)
  | [] => by unfold headP LangH; exact tells_own c
  | p :: _ => by unfold headP LangH; exact leads_tells c p
end
end Go.Proofs.YtdnkignhenkamaaGreatDoor

/- -/
namespace Go.Proofs.YtdnkignhenkamaaGreatDoor
def risesB : List Nat → Bool
  | a :: b :: r => decide (a < b) && risesB (b :: r)
  | _ => true
theorem risesB_at : ∀ {l : List Nat} {i x y : Nat}, risesB l = true → l[i]? = some x → l[i + 1]? = some y → x < y
  | [], i, x, y, _, hx, _ => by simp at hx
  | [a], i, x, y, _, _, hy => by simp at hy
  | a :: b :: r, 0, x, y, h, hx, hy => by
    simp at hx hy
    subst hx; subst hy
    unfold risesB at h
    rw [Bool.and_eq_true] at h
    exact of_decide_eq_true h.1
  | a :: b :: r, i + 1, x, y, h, hx, hy => by
    unfold risesB at h
    rw [Bool.and_eq_true] at h
    exact risesB_at h.2 (by simpa using hx) (by simpa using hy)
def formOk (op kn : Nat) : Bool := if op = 0 ∨ op = 1 then kn == 0 else if op = 2 ∨ op = 3 then decide (2 ≤ kn) else kn == 1
def nodeOk (N op : Nat) (cs : List Nat) (kn : Nat) : Bool := decide (op ≤ 6) && (op == 1 || cs.isEmpty) && formOk op kn && cs.all (fun c => decide (c < N)) && risesB cs
mutual
def sizeP : Pat → Nat
  | .node _ _ ks => 1 + sizeL ks
def sizeL : List Pat → Nat
  | [] => 0
  | p :: r => sizeP p + sizeL r
end
mutual
def goodP (N : Nat) : Pat → Bool
  | .node op cs ks => nodeOk N op cs ks.length && goodL N ks
def goodL (N : Nat) : List Pat → Bool
  | [] => true
  | p :: r => goodP N p && goodL N r
end
theorem sizeP_pos : ∀ p : Pat, 1 ≤ sizeP p
  | .node _ _ ks => by unfold sizeP; omega
theorem sizeL_take : ∀ {ks : List Pat} {i : Nat} {p : Pat}, ks[i]? = some p → sizeL (ks.take (i + 1)) = sizeL (ks.take i) + sizeP p
  | [], i, p, h => by simp at h
  | q :: r, 0, p, h => by simp at h; subst h; simp [sizeL]
  | q :: r, i + 1, p, h => by
    have := sizeL_take (ks := r) (i := i) (p := p) (by simpa using h)
    rw [List.take_succ_cons, List.take_succ_cons, sizeL, sizeL, this]; omega
theorem sizeL_le : ∀ (ks : List Pat) (i : Nat), sizeL (ks.take i) ≤ sizeL ks
  | [], i => by simp
  | q :: r, 0 => by simp [sizeL]
  | q :: r, i + 1 => by rw [List.take_succ_cons, sizeL, sizeL]; have := sizeL_le r i; omega
theorem sizeL_at {ks : List Pat} {i : Nat} {p : Pat} (h : ks[i]? = some p) : sizeL (ks.take i) + sizeP p ≤ sizeL ks := by
  rw [← sizeL_take h]; exact sizeL_le _ _
theorem goodL_at {N : Nat} : ∀ {ks : List Pat} {i : Nat} {p : Pat}, goodL N ks = true → ks[i]? = some p → goodP N p = true
  | [], i, p, _, h => by simp at h
  | q :: r, 0, p, g, h => by simp at h; subst h; unfold goodL at g; rw [Bool.and_eq_true] at g; exact g.1
  | q :: r, i + 1, p, g, h => by unfold goodL at g; rw [Bool.and_eq_true] at g; exact goodL_at g.2 (by simpa using h)
theorem nodeOk_mono {N M op : Nat} {cs : List Nat} {kn : Nat} (hNM : N ≤ M) (h : nodeOk N op cs kn = true) : nodeOk M op cs kn = true := by
  unfold nodeOk at h ⊢
  simp only [Bool.and_eq_true, decide_eq_true_eq, Bool.or_eq_true, beq_iff_eq, List.isEmpty_iff, List.all_eq_true] at h ⊢
  obtain ⟨⟨⟨⟨h1, h2⟩, h3⟩, h4⟩, h5⟩ := h
  exact ⟨⟨⟨⟨h1, h2⟩, h3⟩, fun x hx => Nat.lt_of_lt_of_le (h4 x hx) hNM⟩, h5⟩
mutual
theorem goodP_mono {N M : Nat} (hNM : N ≤ M) : ∀ {p : Pat}, goodP N p = true → goodP M p = true
  | .node op cs ks, h => by
    unfold goodP at h ⊢
    rw [Bool.and_eq_true] at h ⊢
    exact ⟨nodeOk_mono hNM h.1, goodL_mono hNM h.2⟩
theorem goodL_mono {N M : Nat} (hNM : N ≤ M) : ∀ {ks : List Pat}, goodL N ks = true → goodL M ks = true
  | [], _ => by unfold goodL; rfl
  | p :: r, h => by
    unfold goodL at h ⊢
    rw [Bool.and_eq_true] at h ⊢
    exact ⟨goodP_mono hNM h.1, goodL_mono hNM h.2⟩
end
theorem node_parts {N op : Nat} {cs : List Nat} {kn : Nat} (h : nodeOk N op cs kn = true) : op ≤ 6 ∧ (op = 1 ∨ cs = []) ∧ formOk op kn = true ∧ (∀ (i c : Nat), cs[i]? = some c → c < N) ∧ risesB cs = true := by
  unfold nodeOk at h
  simp only [Bool.and_eq_true, decide_eq_true_eq, Bool.or_eq_true, beq_iff_eq, List.isEmpty_iff, List.all_eq_true] at h
  obtain ⟨⟨⟨⟨h1, h2⟩, h3⟩, h4⟩, h5⟩ := h
  exact ⟨h1, h2, h3, fun i c hc => h4 c (List.mem_of_getElem? hc), h5⟩
end Go.Proofs.YtdnkignhenkamaaGreatDoor

/- -/
namespace Go.Proofs.YtdnkignhenkamaaGreatDoor
def Ahead (start : Bool) (L : List Nat → Prop) (a : List Nat) : Prop := ∃ u v, a = u ++ v ∧ (start = true → u = []) ∧ L v
def Behind (stop : Bool) (L : List Nat → Prop) (b : List Nat) : Prop := ∃ u v, b = u ++ v ∧ (stop = true → v = []) ∧ L u
def AppliesL (r : RuleP) (a b : List Nat) : Prop := Ahead r.start (Lang r.left) a ∧ Behind r.stop (Lang r.right) b
inductive Decides (a b : List Nat) (rest : Bool) : List RuleP → Bool → Prop
  | none : Decides a b rest [] rest
  | yes {r : RuleP} {l : List RuleP} : AppliesL r a b → Decides a b rest (r :: l) r.cut
  | no {r : RuleP} {l : List RuleP} {x : Bool} : ¬ AppliesL r a b → Decides a b rest l x → Decides a b rest (r :: l) x
theorem snoc_ind {P : List Nat → Prop} (h0 : P []) (h1 : ∀ a y, P a → P (a ++ [y])) (a : List Nat) : P a := by
  have key : ∀ r : List Nat, P r.reverse := fun r => by
    induction r with
    | nil => exact h0
    | cons y r ih => rw [List.reverse_cons]; exact h1 _ _ ih
  have := key a.reverse
  rwa [List.reverse_reverse] at this
theorem snoc_inj {a b : List Nat} {x y : Nat} (h : a ++ [x] = b ++ [y]) : a = b ∧ x = y := by
  have := List.append_inj' h rfl
  exact ⟨this.1, by simpa using this.2⟩
def One (cs : List Nat) (u : List Nat) : Prop := ∃ x, u = [x] ∧ x ∈ cs
theorem lang_set (cs : List Nat) (ks : List Pat) (u : List Nat) : Lang (.node 1 cs ks) u ↔ One cs u := by simp [Lang, One]
theorem lang_empty (cs : List Nat) (ks : List Pat) (u : List Nat) : Lang (.node 0 cs ks) u ↔ u = [] := by simp [Lang]
theorem lang_or (cs : List Nat) (ks : List Pat) (u : List Nat) : Lang (.node 3 cs ks) u ↔ LangO ks u := by simp [Lang]
theorem lang_then (cs : List Nat) (ks : List Pat) (u : List Nat) : Lang (.node 2 cs ks) u ↔ LangT ks u := by simp [Lang]
theorem lang_many (cs : List Nat) (p : Pat) (ks : List Pat) (u : List Nat) : Lang (.node 4 cs (p :: ks)) u ↔ Star (Lang p) u := by simp [Lang, LangH]
theorem lang_may (cs : List Nat) (p : Pat) (ks : List Pat) (u : List Nat) : Lang (.node 6 cs (p :: ks)) u ↔ (u = [] ∨ Lang p u) := by simp [Lang, LangH]
theorem langO_sets : ∀ (l : List (List Nat)) (u : List Nat), LangO (l.map fun c => .node 1 c []) u ↔ One l.flatten u
  | [], u => by simp [LangO, One]
  | c :: r, u => by
    rw [List.map_cons, LangO]
    show (Lang (.node 1 c []) u ∨ LangO (r.map fun c => .node 1 c []) u) ↔ _
    rw [langO_sets r u, lang_set]
    unfold One
    rw [List.flatten_cons]
    constructor
    · rintro (⟨x, e, h⟩ | ⟨x, e, h⟩)
      · exact ⟨x, e, List.mem_append.2 (.inl h)⟩
      · exact ⟨x, e, List.mem_append.2 (.inr h)⟩
    · rintro ⟨x, e, h⟩
      rcases List.mem_append.1 h with h | h
      · exact .inl ⟨x, e, h⟩
      · exact .inr ⟨x, e, h⟩
theorem Ahead.congr {s : Bool} {L M : List Nat → Prop} (h : ∀ u, L u ↔ M u) (a : List Nat) : Ahead s L a ↔ Ahead s M a :=
  ⟨fun ⟨u, v, e, hs, hl⟩ => ⟨u, v, e, hs, (h v).1 hl⟩, fun ⟨u, v, e, hs, hl⟩ => ⟨u, v, e, hs, (h v).2 hl⟩⟩
theorem Behind.congr {s : Bool} {L M : List Nat → Prop} (h : ∀ u, L u ↔ M u) (a : List Nat) : Behind s L a ↔ Behind s M a :=
  ⟨fun ⟨u, v, e, hs, hl⟩ => ⟨u, v, e, hs, (h u).1 hl⟩, fun ⟨u, v, e, hs, hl⟩ => ⟨u, v, e, hs, (h u).2 hl⟩⟩
theorem ahead_one {a : List Nat} {p : Nat} {cs : List Nat} : Ahead false (One cs) (a ++ [p]) ↔ p ∈ cs := by
  constructor
  · rintro ⟨u, v, e, _, x, rfl, hx⟩
    rw [(snoc_inj e).2]; exact hx
  · intro h
    exact ⟨a, [p], rfl, (fun h => by cases h), p, rfl, h⟩
theorem behind_one {b : List Nat} {q : Nat} {cs : List Nat} : Behind false (One cs) (q :: b) ↔ q ∈ cs := by
  constructor
  · rintro ⟨u, v, e, _, x, rfl, hx⟩
    rw [List.singleton_append] at e
    injection e with e _
    rw [e]; exact hx
  · intro h
    exact ⟨[q], b, rfl, (fun h => by cases h), q, rfl, h⟩
theorem ahead_nil (a : List Nat) : Ahead false (fun u => u = []) a := ⟨a, [], by simp, (fun h => by cases h), rfl⟩
theorem behind_nil (b : List Nat) : Behind false (fun u => u = []) b := ⟨[], b, rfl, (fun h => by cases h), rfl⟩
theorem star_one (c : Nat) (u : List Nat) : Star (One [c]) u ↔ ∃ n, u = List.replicate n c := by
  constructor
  · intro h
    induction h with
    | nil => exact ⟨0, rfl⟩
    | app h1 _ ih =>
      obtain ⟨x, rfl, hx⟩ := h1
      obtain ⟨n, rfl⟩ := ih
      rw [List.mem_singleton] at hx
      subst hx
      exact ⟨n + 1, rfl⟩
  · rintro ⟨n, rfl⟩
    induction n with
    | zero => exact .nil
    | succ n ih => rw [List.replicate_succ]; exact .app (u := [c]) ⟨c, rfl, by simp⟩ ih
theorem star_congr {L M : List Nat → Prop} (h : ∀ u, L u ↔ M u) (u : List Nat) : Star L u ↔ Star M u := by
  constructor
  · intro g
    induction g with
    | nil => exact .nil
    | app h1 _ ih => exact .app ((h _).1 h1) ih
  · intro g
    induction g with
    | nil => exact .nil
    | app h1 _ ih => exact .app ((h _).2 h1) ih
theorem star_two (c : Nat) (u : List Nat) : Star (fun v => v = [c, c]) u ↔ ∃ n, u = List.replicate (2 * n) c := by
  constructor
  · intro h
    induction h with
    | nil => exact ⟨0, rfl⟩
    | app h1 _ ih =>
      subst h1
      obtain ⟨n, rfl⟩ := ih
      exact ⟨n + 1, by rw [show 2 * (n + 1) = 2 * n + 1 + 1 by omega, List.replicate_succ, List.replicate_succ]; rfl⟩
  · rintro ⟨n, rfl⟩
    induction n with
    | zero => exact .nil
    | succ n ih =>
      rw [show 2 * (n + 1) = 2 * n + 1 + 1 by omega, List.replicate_succ, List.replicate_succ]
      exact .app (u := [c, c]) rfl ih
def two13 : Pat := .node 2 [] [.node 1 [13] [], .node 1 [13] []]
theorem lang_two (u : List Nat) : Lang two13 u ↔ u = [13, 13] := by
  unfold two13
  rw [lang_then]
  simp only [LangT, lang_set, One]
  constructor
  · rintro ⟨_, _, rfl, ⟨x, rfl, hx⟩, _, _, rfl, ⟨y, rfl, hy⟩, rfl⟩
    simp at hx hy
    subst hx hy
    rfl
  · rintro rfl
    exact ⟨[13], [13], rfl, ⟨13, rfl, by simp⟩, [13], [], rfl, ⟨13, rfl, by simp⟩, rfl⟩
def G0 : GS := ⟨0, false, false, 0⟩
theorem first_next (y : Nat) : GS.first y = G0.next y := by simp [GS.first, GS.next, G0]
theorem pict_iff (a : List Nat) : (stOf G0 a).pict = true ↔ ∃ u n, a = u ++ 12 :: List.replicate n 4 := by
  induction a using snoc_ind with
  | h0 => simp [stOf, G0]
  | h1 a y ih =>
    rw [stOf_snoc]
    simp only [GS.next, Bool.or_eq_true, beq_iff_eq, Bool.and_eq_true, ih]
    constructor
    · rintro (rfl | ⟨⟨u, n, rfl⟩, rfl⟩)
      · exact ⟨a, 0, rfl⟩
      · exact ⟨u, n + 1, by rw [List.replicate_succ']; simp⟩
    · rintro ⟨u, n, h⟩
      cases n with
      | zero => exact .inl (snoc_inj (b := u) (y := 12) (by simpa using h)).2
      | succ n =>
        rw [List.replicate_succ', ← List.cons_append, ← List.append_assoc] at h
        have := snoc_inj h
        exact .inr ⟨⟨u, n, this.1⟩, this.2⟩
theorem joined_iff (a : List Nat) (p : Nat) : (stOf G0 (a ++ [p])).joined = true ↔ p = 5 ∧ ∃ u n, a = u ++ 12 :: List.replicate n 4 := by
  rw [stOf_snoc]
  simp only [GS.next, Bool.and_eq_true, beq_iff_eq, pict_iff]
  exact ⟨fun h => ⟨h.2, h.1⟩, fun h => ⟨h.2, h.1⟩⟩
theorem flags_run (a : List Nat) : ∃ u, a = u ++ List.replicate (stOf G0 a).flags 13 ∧ (u = [] ∨ ∃ u' x, u = u' ++ [x] ∧ x ≠ 13) := by
  induction a using snoc_ind with
  | h0 => exact ⟨[], by simp [stOf, G0], .inl rfl⟩
  | h1 a y ih =>
    rw [stOf_snoc]
    simp only [GS.next]
    by_cases h : y = 13
    · subst h
      obtain ⟨u, h1, h2⟩ := ih
      refine ⟨u, ?_, h2⟩
      rw [if_pos rfl, List.replicate_succ', ← List.append_assoc, ← h1]
    · rw [if_neg h]
      exact ⟨a ++ [y], by simp, .inr ⟨a, y, rfl, h⟩⟩
theorem run_len : ∀ (n m : Nat) {u v : List Nat}, u ++ List.replicate n 13 = v ++ List.replicate m 13 → (u = [] ∨ ∃ u' x, u = u' ++ [x] ∧ x ≠ 13) → (v = [] ∨ ∃ u' x, v = u' ++ [x] ∧ x ≠ 13) → n = m
  | 0, 0, _, _, _, _, _ => rfl
  | 0, m + 1, u, v, h, hu, _ => by
    rw [List.replicate_zero, List.append_nil, List.replicate_succ', ← List.append_assoc] at h
    rcases hu with rfl | ⟨u', x, rfl, hx⟩
    · simp at h
    · exact absurd (snoc_inj h).2 hx
  | n + 1, 0, u, v, h, _, hv => by
    rw [List.replicate_zero, List.append_nil, List.replicate_succ', ← List.append_assoc] at h
    rcases hv with rfl | ⟨u', x, rfl, hx⟩
    · simp at h
    · exact absurd (snoc_inj h).2.symm hx
  | n + 1, m + 1, u, v, h, hu, hv => by
    rw [List.replicate_succ', List.replicate_succ', ← List.append_assoc, ← List.append_assoc] at h
    rw [run_len n m (snoc_inj h).1 hu hv]
def setQ (c : Nat) : Pat := .node 1 [c] []
def rulesG : List RuleP := [
  ⟨false, false, false, setQ 1, setQ 2⟩,
  ⟨true, false, false, .node 3 [] [setQ 1, setQ 2, setQ 3], .node 0 [] []⟩,
  ⟨true, false, false, .node 0 [] [], .node 3 [] [setQ 1, setQ 2, setQ 3]⟩,
  ⟨false, false, false, setQ 8, .node 3 [] [setQ 8, setQ 9, setQ 11]⟩,
  ⟨false, false, false, .node 3 [] [setQ 9, setQ 11], .node 3 [] [setQ 9, setQ 10]⟩,
  ⟨false, false, false, setQ 10, setQ 10⟩,
  ⟨false, false, false, .node 0 [] [], .node 3 [] [setQ 4, setQ 5, setQ 6]⟩,
  ⟨false, false, false, setQ 7, .node 0 [] []⟩,
  ⟨false, false, false, .node 2 [] [setQ 12, .node 4 [] [setQ 4], setQ 5], setQ 12⟩,
  ⟨false, true, false, .node 2 [] [.node 4 [] [two13], setQ 13], setQ 13⟩,
  ⟨false, false, false, .node 2 [] [.node 1 [0, 1, 2, 3, 4, 5, 6, 7, 8, 9, 10, 11, 12] [], .node 4 [] [two13], setQ 13], setQ 13⟩]
theorem lang_alt (l : List Nat) (u : List Nat) : Lang (.node 3 [] (l.map setQ)) u ↔ One l u := by
  have h := langO_sets (l.map fun c => [c]) u
  rw [List.map_map] at h
  have e : ∀ l : List Nat, (l.map fun c => [c]).flatten = l := fun l => by
    induction l with
    | nil => rfl
    | cons a r ih => rw [List.map_cons, List.flatten_cons, ih]; rfl
  rw [e] at h
  rw [lang_or]
  exact h
theorem ahead_alt {a : List Nat} {p : Nat} (l : List Nat) : Ahead false (Lang (.node 3 [] (l.map setQ))) (a ++ [p]) ↔ p ∈ l := (Ahead.congr (lang_alt l) _).trans ahead_one
theorem behind_alt {b : List Nat} {q : Nat} (l : List Nat) : Behind false (Lang (.node 3 [] (l.map setQ))) (q :: b) ↔ q ∈ l := (Behind.congr (lang_alt l) _).trans behind_one
theorem ahead_set {a : List Nat} {p : Nat} (cs : List Nat) : Ahead false (Lang (.node 1 cs [])) (a ++ [p]) ↔ p ∈ cs := (Ahead.congr (lang_set cs []) _).trans ahead_one
theorem behind_set {b : List Nat} {q : Nat} (cs : List Nat) : Behind false (Lang (.node 1 cs [])) (q :: b) ↔ q ∈ cs := (Behind.congr (lang_set cs []) _).trans behind_one
theorem ahead_empty (a : List Nat) : Ahead false (Lang (.node 0 [] [])) a := (Ahead.congr (lang_empty [] []) _).2 (ahead_nil a)
theorem behind_empty (b : List Nat) : Behind false (Lang (.node 0 [] [])) b := (Behind.congr (lang_empty [] []) _).2 (behind_nil b)
theorem lang_pict (u : List Nat) : Lang (.node 2 [] [setQ 12, .node 4 [] [setQ 4], setQ 5]) u ↔ ∃ n, u = 12 :: (List.replicate n 4 ++ [5]) := by
  rw [lang_then]
  simp only [LangT, lang_many, setQ, lang_set]
  constructor
  · rintro ⟨_, _, rfl, ⟨x, rfl, hx⟩, _, _, rfl, hs, _, _, rfl, ⟨y, rfl, hy⟩, rfl⟩
    obtain ⟨n, rfl⟩ := (star_one 4 _).1 ((star_congr (fun u => lang_set [4] [] u) _).1 hs)
    simp at hx hy
    subst hx hy
    exact ⟨n, rfl⟩
  · rintro ⟨n, rfl⟩
    exact ⟨[12], _, rfl, ⟨12, rfl, by simp⟩, List.replicate n 4, [5], rfl, (star_congr (fun u => lang_set [4] [] u) _).2 ((star_one 4 _).2 ⟨n, rfl⟩), [5], [], rfl, ⟨5, rfl, by simp⟩, rfl⟩
theorem ahead_pict {a : List Nat} {p : Nat} : Ahead false (Lang (.node 2 [] [setQ 12, .node 4 [] [setQ 4], setQ 5])) (a ++ [p]) ↔ (stOf G0 (a ++ [p])).joined = true := by
  rw [joined_iff, Ahead.congr lang_pict]
  constructor
  · rintro ⟨u, v, e, _, n, rfl⟩
    rw [← List.cons_append, ← List.append_assoc] at e
    have := snoc_inj e
    exact ⟨this.2, u, n, this.1⟩
  · rintro ⟨rfl, u, n, rfl⟩
    exact ⟨u, _, by simp, (fun h => by cases h), n, rfl⟩
theorem lang_odd (u : List Nat) : Lang (.node 2 [] [.node 4 [] [two13], setQ 13]) u ↔ ∃ n, u = List.replicate (2 * n + 1) 13 := by
  rw [lang_then]
  simp only [LangT, lang_many, setQ, lang_set]
  constructor
  · rintro ⟨_, _, rfl, hs, _, _, rfl, ⟨y, rfl, hy⟩, rfl⟩
    obtain ⟨n, rfl⟩ := (star_two 13 _).1 ((star_congr lang_two _).1 hs)
    simp at hy
    subst hy
    exact ⟨n, by rw [List.replicate_succ']; rfl⟩
  · rintro ⟨n, rfl⟩
    exact ⟨List.replicate (2 * n) 13, [13], by rw [List.replicate_succ'], (star_congr lang_two _).2 ((star_two 13 _).2 ⟨n, rfl⟩), [13], [], rfl, ⟨13, rfl, by simp⟩, rfl⟩
theorem lang_odd2 (cs : List Nat) (u : List Nat) : Lang (.node 2 [] [.node 1 cs [], .node 4 [] [two13], setQ 13]) u ↔ ∃ x n, x ∈ cs ∧ u = x :: List.replicate (2 * n + 1) 13 := by
  have h2 := lang_odd
  simp only [lang_then] at h2 ⊢
  rw [LangT]
  constructor
  · rintro ⟨_, w, rfl, h1, hw⟩
    obtain ⟨x, rfl, hx⟩ := (lang_set cs [] _).1 h1
    obtain ⟨n, rfl⟩ := (h2 w).1 hw
    exact ⟨x, n, hx, rfl⟩
  · rintro ⟨x, n, hx, rfl⟩
    exact ⟨[x], _, rfl, (lang_set cs [] _).2 ⟨x, rfl, hx⟩, (h2 _).2 ⟨n, rfl⟩⟩
theorem ahead_odd {a : List Nat} (h14 : ∀ x ∈ a, x < 14) : (Ahead true (Lang (.node 2 [] [.node 4 [] [two13], setQ 13])) a ∨ Ahead false (Lang (.node 2 [] [.node 1 [0, 1, 2, 3, 4, 5, 6, 7, 8, 9, 10, 11, 12] [], .node 4 [] [two13], setQ 13])) a) ↔ (stOf G0 a).flags % 2 = 1 := by
  rw [Ahead.congr lang_odd, Ahead.congr (lang_odd2 _)]
  obtain ⟨z, hz, hzu⟩ := flags_run a
  constructor
  · rintro (⟨u, v, e, hs, n, rfl⟩ | ⟨u, v, e, _, x, n, hx, rfl⟩)
    · rw [hs rfl] at e
      have := run_len _ _ (hz.symm.trans e) hzu (.inl rfl)
      omega
    · have e2 : a = (u ++ [x]) ++ List.replicate (2 * n + 1) 13 := by rw [e]; simp
      have := run_len _ _ (hz.symm.trans e2) hzu (.inr ⟨u, x, rfl, by intro h; subst h; simp at hx⟩)
      omega
  · intro h
    generalize (stOf G0 a).flags = F at h hz
    obtain ⟨n, rfl⟩ : ∃ n, F = 2 * n + 1 := ⟨F / 2, by omega⟩
    rcases hzu with rfl | ⟨u', x, rfl, hx⟩
    · exact .inl ⟨[], _, hz, fun _ => rfl, n, rfl⟩
    · refine .inr ⟨u', x :: List.replicate (2 * n + 1) 13, by rw [hz]; simp, (fun h => by cases h), x, n, ?_, rfl⟩
      have := h14 x (by rw [hz]; simp)
      simp only [List.mem_cons, List.not_mem_nil, or_false]
      omega
def chainG (p q : Nat) (j f : Bool) : Bool :=
  if p == 1 && q == 2 then false
  else if [1, 2, 3].contains p then true
  else if [1, 2, 3].contains q then true
  else if p == 8 && [8, 9, 11].contains q then false
  else if [9, 11].contains p && [9, 10].contains q then false
  else if p == 10 && q == 10 then false
  else if [4, 5, 6].contains q then false
  else if p == 7 then false
  else if j && q == 12 then false
  else if q == 13 && f then false
  else true
theorem chain_all : ∀ p < 14, ∀ q < 14, ∀ j f : Bool, ((j && p != 5) || (f && p != 13) || (chainG p q j f == !(joinG p q || j && q == 12 || q == 13 && f))) = true := by decide
theorem chain_same (p : Nat) (hp : p < 14) (q : Nat) (hq : q < 14) (j f : Bool) (hj : j = true → p = 5) (hf : f = true → p = 13) : chainG p q j f = !(joinG p q || j && q == 12 || q == 13 && f) := by
  have h := chain_all p hp q hq j f
  have h1 : (j && p != 5) = false := by
    cases j with
    | false => rfl
    | true => simp [hj rfl]
  have h2 : (f && p != 13) = false := by
    cases f with
    | false => rfl
    | true => simp [hf rfl]
  rw [h1, h2] at h
  simpa using h
theorem Decides.of_cons {a b : List Nat} {rest : Bool} {r : RuleP} {l : List RuleP} {x : Bool} (h : Decides a b rest (r :: l) x) : (AppliesL r a b ∧ x = r.cut) ∨ (¬ AppliesL r a b ∧ Decides a b rest l x) := by
  cases h with
  | yes h => exact .inl ⟨h, rfl⟩
  | no h g => exact .inr ⟨h, g⟩
theorem rules_letters {a b : List Nat} {p q : Nat} {x : Bool} (ha : ∀ y ∈ a ++ [p], y < 14) (hq : q < 14) (h : Decides (a ++ [p]) (q :: b) true rulesG x) : x = (stOf G0 (a ++ [p])).cut q := by
  have hp : p < 14 := ha p (by simp)
  have hst : (stOf G0 (a ++ [p])).prev = p := by rw [stOf_snoc]; rfl
  have hodd := ahead_odd ha
  have hcut : (stOf G0 (a ++ [p])).cut q = chainG p q (stOf G0 (a ++ [p])).joined ((stOf G0 (a ++ [p])).flags % 2 == 1) := by
    have hgd : (stOf G0 (a ++ [p])).Good := stOf_good _ ⟨fun h => by simp [G0] at h, fun h => absurd rfl h⟩
    rw [chain_same p hp q hq _ _ (fun h => hst ▸ hgd.joined h) (fun h => hst ▸ hgd.flags (by intro h0; rw [h0] at h; simp at h)), GS.cut, hst]
  rw [hcut]
  unfold rulesG at h
  have a1 := fun cs => ahead_set (a := a) (p := p) cs
  have b1 := fun cs => behind_set (b := b) (q := q) cs
  have a2 := fun l => ahead_alt (a := a) (p := p) l
  have b2 := fun l => behind_alt (b := b) (q := q) l
  have a3 := ahead_pict (a := a) (p := p)
  generalize (stOf G0 (a ++ [p])).joined = j at a3 ⊢
  generalize (stOf G0 (a ++ [p])).flags = F at hodd ⊢
  have s123 : ([setQ 1, setQ 2, setQ 3] : List Pat) = [1, 2, 3].map setQ := rfl
  have s8911 : ([setQ 8, setQ 9, setQ 11] : List Pat) = [8, 9, 11].map setQ := rfl
  have s911 : ([setQ 9, setQ 11] : List Pat) = [9, 11].map setQ := rfl
  have s910 : ([setQ 9, setQ 10] : List Pat) = [9, 10].map setQ := rfl
  have s456 : ([setQ 4, setQ 5, setQ 6] : List Pat) = [4, 5, 6].map setQ := rfl
  rw [s123, s8911, s911, s910, s456] at h
  unfold chainG
  have setP_eq : ∀ c, setQ c = .node 1 [c] [] := fun _ => rfl
  rcases h.of_cons with ⟨⟨h1, h2⟩, rfl⟩ | ⟨n1, h⟩
  · have h1 := (a1 _).1 h1
    have h2 := (b1 _).1 h2
    simp at h1 h2
    simp [h1, h2]
  have n1 : ¬ (p = 1 ∧ q = 2) := fun e => n1 ⟨(a1 _).2 (by simp [e.1]), (b1 _).2 (by simp [e.2])⟩
  rw [if_neg (by simpa using n1)]
  rcases h.of_cons with ⟨⟨h1, _⟩, rfl⟩ | ⟨n2, h⟩
  · rw [if_pos (by simpa using (a2 _).1 h1)]
  have n2 : ¬ p ∈ [1, 2, 3] := fun e => n2 ⟨(a2 _).2 e, behind_empty _⟩
  rw [if_neg (by simpa using n2)]
  rcases h.of_cons with ⟨⟨_, h1⟩, rfl⟩ | ⟨n3, h⟩
  · rw [if_pos (by simpa using (b2 _).1 h1)]
  have n3 : ¬ q ∈ [1, 2, 3] := fun e => n3 ⟨ahead_empty _, (b2 _).2 e⟩
  rw [if_neg (by simpa using n3)]
  rcases h.of_cons with ⟨⟨h1, h2⟩, rfl⟩ | ⟨n4, h⟩
  · rw [if_pos (by have h1 := (a1 _).1 h1; have h2 := (b2 _).1 h2; simpa using And.intro h1 h2)]
  have n4 : ¬ (p ∈ [8] ∧ q ∈ [8, 9, 11]) := fun e => n4 ⟨(a1 _).2 e.1, (b2 _).2 e.2⟩
  rw [if_neg (by simpa using n4)]
  rcases h.of_cons with ⟨⟨h1, h2⟩, rfl⟩ | ⟨n5, h⟩
  · rw [if_pos (by have h1 := (a2 _).1 h1; have h2 := (b2 _).1 h2; simpa using And.intro h1 h2)]
  have n5 : ¬ (p ∈ [9, 11] ∧ q ∈ [9, 10]) := fun e => n5 ⟨(a2 _).2 e.1, (b2 _).2 e.2⟩
  rw [if_neg (by simpa using n5)]
  rcases h.of_cons with ⟨⟨h1, h2⟩, rfl⟩ | ⟨n6, h⟩
  · rw [if_pos (by have h1 := (a1 _).1 h1; have h2 := (b1 _).1 h2; simpa using And.intro h1 h2)]
  have n6 : ¬ (p ∈ [10] ∧ q ∈ [10]) := fun e => n6 ⟨(a1 _).2 e.1, (b1 _).2 e.2⟩
  rw [if_neg (by simpa using n6)]
  rcases h.of_cons with ⟨⟨_, h1⟩, rfl⟩ | ⟨n7, h⟩
  · rw [if_pos (by simpa using (b2 _).1 h1)]
  have n7 : ¬ q ∈ [4, 5, 6] := fun e => n7 ⟨ahead_empty _, (b2 _).2 e⟩
  rw [if_neg (by simpa using n7)]
  rcases h.of_cons with ⟨⟨h1, _⟩, rfl⟩ | ⟨n8, h⟩
  · rw [if_pos (by simpa using (a1 _).1 h1)]
  have n8 : ¬ p ∈ [7] := fun e => n8 ⟨(a1 _).2 e, behind_empty _⟩
  rw [if_neg (by simpa using n8)]
  rcases h.of_cons with ⟨⟨h1, h2⟩, rfl⟩ | ⟨n9, h⟩
  · rw [if_pos (by have h1 := a3.1 h1; have h2 := (b1 _).1 h2; simpa using And.intro h1 h2)]
  have n9 : ¬ (j = true ∧ q ∈ [12]) := fun e => n9 ⟨a3.2 e.1, (b1 _).2 e.2⟩
  rw [if_neg (by simpa using n9)]
  rcases h.of_cons with ⟨⟨h1, h2⟩, rfl⟩ | ⟨n10, h⟩
  · rw [if_pos (by have h1 := hodd.1 (.inl h1); have h2 := (b1 _).1 h2; simpa [h1] using h2)]
  rcases h.of_cons with ⟨⟨h1, h2⟩, rfl⟩ | ⟨n11, h⟩
  · rw [if_pos (by have h1 := hodd.1 (.inr h1); have h2 := (b1 _).1 h2; simpa [h1] using h2)]
  have n12 : ¬ (q = 13 ∧ F % 2 = 1) := fun e => by
    have hq2 := (b1 [13]).2 (by simp [e.1])
    rcases hodd.2 e.2 with g | g
    · exact n10 ⟨g, hq2⟩
    · exact n11 ⟨g, hq2⟩
  rw [if_neg (by simpa using n12)]
  cases h
  rfl
end Go.Proofs.YtdnkignhenkamaaGreatDoor

/- -/
namespace Go.Proofs.YtdnkignhenkamaaGreatDoor
def startsB (p : Pat) (c : List Nat) : List Nat := (List.range (c.length + 1)).filter fun i => leadsP c p i c.length
def endsB (p : Pat) (c : List Nat) : List Nat := (List.range (c.length + 1)).filter fun i => leadsP c p 0 i
def appliesB (r : RuleP) (c : List Nat) (at_ : Nat) : Bool :=
  !(startsB r.left (c.take at_)).isEmpty && !(endsB r.right (c.drop at_)).isEmpty && (!r.start || (startsB r.left (c.take at_)).contains 0) && (!r.stop || (endsB r.right (c.drop at_)).contains (c.length - at_))
theorem mem_starts {p : Pat} {c : List Nat} {i : Nat} : i ∈ startsB p c ↔ i ≤ c.length ∧ Lang p (c.drop i) := by
  unfold startsB
  rw [List.mem_filter, List.mem_range]
  constructor
  · rintro ⟨h1, h2⟩
    have := ((leads_tells c p) i c.length (by omega) (Nat.le_refl _)).1 h2
    refine ⟨by omega, ?_⟩
    have h3 := this.2
    unfold part at h3
    rwa [List.take_of_length_le (by rw [List.length_drop]; omega)] at h3
  · rintro ⟨h1, h2⟩
    refine ⟨by omega, ((leads_tells c p) i c.length h1 (Nat.le_refl _)).2 ⟨h1, ?_⟩⟩
    unfold part
    rwa [List.take_of_length_le (by rw [List.length_drop]; omega)]
theorem mem_ends {p : Pat} {c : List Nat} {i : Nat} : i ∈ endsB p c ↔ i ≤ c.length ∧ Lang p (c.take i) := by
  unfold endsB
  rw [List.mem_filter, List.mem_range]
  constructor
  · rintro ⟨h1, h2⟩
    have := ((leads_tells c p) 0 i (Nat.zero_le _) (by omega)).1 h2
    refine ⟨by omega, ?_⟩
    have h3 := this.2
    unfold part at h3
    simpa using h3
  · rintro ⟨h1, h2⟩
    refine ⟨by omega, ((leads_tells c p) 0 i (Nat.zero_le _) h1).2 ⟨Nat.zero_le _, ?_⟩⟩
    unfold part
    simpa using h2
theorem ahead_iff {p : Pat} {c : List Nat} {s : Bool} : Ahead s (Lang p) c ↔ ∃ i ∈ startsB p c, s = true → i = 0 := by
  constructor
  · rintro ⟨u, v, rfl, hs, hl⟩
    refine ⟨u.length, mem_starts.2 ⟨by simp, by simpa using hl⟩, fun h => by rw [hs h]; rfl⟩
  · rintro ⟨i, hi, hs⟩
    obtain ⟨h1, h2⟩ := mem_starts.1 hi
    exact ⟨c.take i, c.drop i, (List.take_append_drop i c).symm, fun h => by rw [hs h]; rfl, h2⟩
theorem behind_iff {p : Pat} {c : List Nat} {s : Bool} : Behind s (Lang p) c ↔ ∃ i ∈ endsB p c, s = true → i = c.length := by
  constructor
  · rintro ⟨u, v, rfl, hs, hl⟩
    refine ⟨u.length, mem_ends.2 ⟨by simp, by simpa using hl⟩, fun h => by rw [hs h]; simp⟩
  · rintro ⟨i, hi, hs⟩
    obtain ⟨h1, h2⟩ := mem_ends.1 hi
    exact ⟨c.take i, c.drop i, (List.take_append_drop i c).symm, fun h => by rw [hs h]; simp, h2⟩
theorem applies_iff (r : RuleP) (c : List Nat) {at_ : Nat} : appliesB r c at_ = true ↔ AppliesL r (c.take at_) (c.drop at_) := by
  unfold AppliesL appliesB
  rw [ahead_iff, behind_iff, List.length_drop]
  have key : ∀ (l : List Nat) (b : Bool) (z : Nat), (∃ i ∈ l, b = true → i = z) ↔ (!l.isEmpty && (!b || l.contains z)) = true := fun l b z => by
    cases b with
    | false =>
      cases l with
      | nil => simp
      | cons a r => simp
    | true =>
      simp only [forall_const, Bool.not_true, Bool.false_or, Bool.and_eq_true, List.contains_iff_mem]
      constructor
      · rintro ⟨i, hi, rfl⟩
        exact ⟨by cases l with | nil => cases hi | cons => rfl, hi⟩
      · rintro ⟨_, hi⟩
        exact ⟨z, hi, rfl⟩
  rw [key, key]
  simp only [Bool.and_eq_true]
  exact ⟨fun ⟨⟨⟨a, b⟩, c⟩, d⟩ => ⟨⟨a, c⟩, ⟨b, d⟩⟩, fun ⟨⟨a, c⟩, ⟨b, d⟩⟩ => ⟨⟨⟨a, b⟩, c⟩, d⟩⟩
def decideB (rest : Bool) (c : List Nat) (at_ : Nat) : List RuleP → Bool
  | [] => rest
  | r :: l => if appliesB r c at_ then r.cut else decideB rest c at_ l
theorem decides_B (rest : Bool) (c : List Nat) {at_ : Nat} : ∀ (l : List RuleP), Decides (c.take at_) (c.drop at_) rest l (decideB rest c at_ l)
  | [] => .none
  | r :: l => by
    unfold decideB
    by_cases ha : appliesB r c at_ = true
    · rw [if_pos ha]; exact .yes ((applies_iff r c).1 ha)
    · rw [if_neg ha]; exact .no (fun g => ha ((applies_iff r c).2 g)) (decides_B rest c l)
def placeB (rs : List RuleP) (rest : Bool) (c : List Nat) (at_ : Nat) : Bool := decide (at_ = 0) || decide (at_ = c.length) || decideB rest c at_ rs
def boundsB (rs : List RuleP) (rest : Bool) (c : List Nat) : List Nat := if c = [] then [] else (List.range (c.length + 1)).filter fun i => placeB rs rest c i
def edgesP (s : ByteArray) : List Nat := (runesP s).map (fun x => x.2.1) ++ [s.size]
def boundsR (rs : List RuleP) (rest : Bool) (g : Int → Nat) (s : ByteArray) : List Nat := if s.size = 0 then [] else (boundsB rs rest (clsG g (runesP s))).map fun i => (edgesP s).getD i 0
theorem pick_filter : ∀ (n : Nat) (r : List (Nat × Nat × Nat)) (t : List Bool), r.length = n → t.length = n → pickG r t = ((List.range n).filter fun i => t.getD i false).map fun i => (r.map fun x => x.2.1).getD i 0
  | 0, r, t, hr, ht => by
    obtain rfl := List.eq_nil_of_length_eq_zero hr
    obtain rfl := List.eq_nil_of_length_eq_zero ht
    rfl
  | n + 1, r, t, hr, ht => by
    rcases List.eq_nil_or_concat r with rfl | ⟨r', x, rfl⟩
    · simp at hr
    rcases List.eq_nil_or_concat t with rfl | ⟨t', b, rfl⟩
    · simp at ht
    simp only [List.concat_eq_append, List.length_append, List.length_singleton, Nat.add_right_cancel_iff] at hr ht ⊢
    rw [pickG_snoc r' t' x b (by omega), pick_filter n r' t' hr ht, List.range_succ, List.filter_append, List.map_append]
    have e1 : (List.range n).filter (fun i => (t' ++ [b]).getD i false) = (List.range n).filter (fun i => t'.getD i false) := by
      refine List.filter_congr fun i hi => ?_
      rw [List.mem_range] at hi
      rw [List.getD_eq_getElem?_getD, List.getD_eq_getElem?_getD, List.getElem?_append_left (by omega)]
    have e2 : ((List.range n).filter (fun i => t'.getD i false)).map (fun i => ((r' ++ [x]).map fun x => x.2.1).getD i 0) = ((List.range n).filter (fun i => t'.getD i false)).map fun i => (r'.map fun x => x.2.1).getD i 0 := by
      refine List.map_congr_left fun i hi => ?_
      have hi := (List.mem_filter.1 hi).1
      rw [List.mem_range] at hi
      rw [List.getD_eq_getElem?_getD, List.getD_eq_getElem?_getD, List.map_append, List.getElem?_append_left (by rw [List.length_map]; omega)]
    rw [e1, e2]
    congr 1
    have e3 : (t' ++ [b]).getD n false = b := by rw [List.getD_eq_getElem?_getD, List.getElem?_append_right (by omega), ht, Nat.sub_self]; rfl
    have e4 : ((r' ++ [x]).map fun x => x.2.1).getD n 0 = x.2.1 := by rw [List.getD_eq_getElem?_getD, List.map_append, List.getElem?_append_right (by rw [List.length_map]; omega), List.length_map, hr, Nat.sub_self]; rfl
    cases b with
    | true => simp only [List.filter_cons, List.filter_nil, e3, if_true, List.map_cons, List.map_nil, e4]
    | false => simp only [List.filter_cons, List.filter_nil, e3, if_false, Bool.false_eq_true, List.map_nil]
theorem cutsG_decide {c : List Nat} (hc : ∀ x ∈ c, x < 14) {i : Nat} (h0 : 0 < i) (hi : i < c.length) : decideB true c i rulesG = (cutsG c).getD i false := by
  have h := decides_B true c (at_ := i) rulesG
  obtain ⟨k, rfl⟩ : ∃ k, i = k + 1 := ⟨i - 1, by omega⟩
  have e1 : c.take (k + 1) = c.take k ++ [c[k]'(by omega)] := by rw [List.take_add_one, List.getElem?_eq_getElem (by omega)]; rfl
  rw [e1, List.drop_eq_getElem_cons hi] at h
  have h2 := rules_letters (fun y hy => hc y (by rw [← e1] at hy; exact List.mem_of_mem_take hy)) (hc _ (List.getElem_mem hi)) h
  rw [h2, ← e1]
  cases c with
  | nil => simp at hi
  | cons z l =>
    have hl : k < l.length := by simpa using hi
    have h3 := cutSt_at (GS.first z) l k _ (List.getElem?_eq_getElem hl)
    rw [cutsG, List.getD_eq_getElem?_getD, List.getElem?_cons_succ, h3, first_next]
    rfl
theorem bounds_rules {g : Int → Nat} (hg : ∀ r, g r < 14) (s : ByteArray) : boundsR rulesG true g s = boundsG g s := by
  unfold boundsR boundsG
  by_cases hs : s.size = 0
  · rw [if_pos hs, if_pos hs]
  rw [if_neg hs, if_neg hs]
  have hne : clsG g (runesP s) ≠ [] := fun h => by
    obtain ⟨T, hT⟩ := starts_zero g (s := s) (by omega)
    have h1 := starts_len g s
    rw [h, hT] at h1
    simp [cutsG] at h1
  have hcl : ∀ x ∈ clsG g (runesP s), x < 14 := fun x hx => by
    obtain ⟨y, _, rfl⟩ := List.mem_map.1 hx
    exact hg _
  have hlen := clsG_len g (runesP s)
  unfold boundsB startsG
  rw [if_neg hne, List.range_succ, List.filter_append, List.map_append, pick_filter (runesP s).length (runesP s) _ rfl (by rw [cutsG_len, hlen]), hlen]
  have e1 : (List.range (runesP s).length).filter (fun i => placeB rulesG true (clsG g (runesP s)) i) = (List.range (runesP s).length).filter (fun i => (cutsG (clsG g (runesP s))).getD i false) := by
    refine List.filter_congr fun i hi => ?_
    rw [List.mem_range] at hi
    unfold placeB
    rcases Nat.eq_zero_or_pos i with rfl | h0
    · cases hc : clsG g (runesP s) with
      | nil => exact absurd hc hne
      | cons y r => simp [cutsG]
    · rw [cutsG_decide hcl h0 (by omega)]
      simp [show i ≠ 0 by omega, show i ≠ (clsG g (runesP s)).length by omega]
  have e2 : [(runesP s).length].filter (fun i => placeB rulesG true (clsG g (runesP s)) i) = [(runesP s).length] := by
    simp [placeB, hlen]
  rw [e1, e2]
  congr 1
  · refine List.map_congr_left fun i hi => ?_
    have hi := (List.mem_filter.1 hi).1
    rw [List.mem_range] at hi
    unfold edgesP
    rw [List.getD_eq_getElem?_getD, List.getD_eq_getElem?_getD, List.getElem?_append_left (by rw [List.length_map]; omega)]
  · unfold edgesP
    simp only [List.map_cons, List.map_nil]
    rw [List.getD_eq_getElem?_getD, List.getElem?_append_right (by rw [List.length_map]; omega), List.length_map, Nat.sub_self]
    rfl
end Go.Proofs.YtdnkignhenkamaaGreatDoor

/- -/
namespace Go.Proofs.YtdnkignhenkamaaGreatDoor
open Go.RowKit
end Go.Proofs.YtdnkignhenkamaaGreatDoor

/- -/
namespace Go.Proofs.YtdnkignhenkamaaGreatDoor
open Go.RowKit
end Go.Proofs.YtdnkignhenkamaaGreatDoor

/- -/
namespace Go.Proofs.YtdnkignhenkamaaGreatDoor
open Go.RowKit
end Go.Proofs.YtdnkignhenkamaaGreatDoor

/- -/
namespace Go.Proofs.YtdnkignhenkamaaGreatDoor
open Go.RowKit
end Go.Proofs.YtdnkignhenkamaaGreatDoor

/- -/
namespace Go.Proofs.YtdnkignhenkamaaGreatDoor
open Go.RowKit
end Go.Proofs.YtdnkignhenkamaaGreatDoor

/- -/
namespace Go.Proofs.YtdnkignhenkamaaGreatDoor
open Go.RowKit
def leadN (c : Nat) : Nat × Nat := if c < 128 then (1, c) else if 192 ≤ c ∧ c < 224 then (2, c % 32) else if 224 ≤ c ∧ c < 240 then (3, c % 16) else if 240 ≤ c ∧ c < 248 then (4, c % 8) else (0, 0)
def widN (r : Nat) : Nat := if 1114111 < r ∨ (55296 ≤ r ∧ r ≤ 57343) then 0 else if r < 128 then 1 else if r < 2048 then 2 else if r < 65536 then 3 else 4
def foldN (g : Nat → Nat) (m : Nat) : Nat → Nat
  | 0 => m
  | j + 1 => foldN g m j * 64 + g (j + 1) % 64
theorem lead_cases (c : Nat) (hc : c < 256) : (c < 128 ∧ leadN c = (1, c)) ∨ ((128 ≤ c ∧ c / 32 = 6) ∧ leadN c = (2, c % 32)) ∨ ((128 ≤ c ∧ c / 32 ≠ 6 ∧ c / 16 = 14) ∧ leadN c = (3, c % 16)) ∨ ((128 ≤ c ∧ c / 32 ≠ 6 ∧ c / 16 ≠ 14 ∧ c / 8 = 30) ∧ leadN c = (4, c % 8)) ∨ ((128 ≤ c ∧ c / 32 ≠ 6 ∧ c / 16 ≠ 14 ∧ c / 8 ≠ 30) ∧ leadN c = (0, 0)) := by
  unfold leadN
  by_cases h1 : c < 128
  · exact .inl ⟨h1, if_pos h1⟩
  by_cases h2 : 192 ≤ c ∧ c < 224
  · exact .inr (.inl ⟨by omega, by rw [if_neg h1, if_pos h2]⟩)
  by_cases h3 : 224 ≤ c ∧ c < 240
  · exact .inr (.inr (.inl ⟨by omega, by rw [if_neg h1, if_neg h2, if_pos h3]⟩))
  by_cases h4 : 240 ≤ c ∧ c < 248
  · exact .inr (.inr (.inr (.inl ⟨by omega, by rw [if_neg h1, if_neg h2, if_neg h3, if_pos h4]⟩)))
  · exact .inr (.inr (.inr (.inr ⟨by omega, by rw [if_neg h1, if_neg h2, if_neg h3, if_neg h4]⟩)))
theorem lead_le (c : Nat) (hc : c < 256) : (leadN c).1 ≤ 4 := by rcases lead_cases c hc with ⟨_, e⟩ | ⟨_, e⟩ | ⟨_, e⟩ | ⟨_, e⟩ | ⟨_, e⟩ <;> rw [e] <;> simp
section
variable {g : Nat → Nat} {n : Nat}
theorem ref_none (h : (leadN (g 0)).1 = 0) (h0 : g 0 < 256) : Lib.decodeN n (g 0) (g 1) (g 2) (g 3) = (65533, 1) := by
  unfold Lib.decodeN
  rcases lead_cases (g 0) h0 with ⟨hb, e⟩ | ⟨hb, e⟩ | ⟨hb, e⟩ | ⟨hb, e⟩ | ⟨hb, e⟩ <;> rw [e] at h <;> simp only at h
  all_goals try omega
  rw [if_neg (by omega), if_neg (by omega), if_neg (by omega), if_neg (by omega)]
theorem ref_short (h : n < (leadN (g 0)).1) (hn : 0 < n) (h0 : g 0 < 256) : Lib.decodeN n (g 0) (g 1) (g 2) (g 3) = (65533, 1) := by
  unfold Lib.decodeN
  rcases lead_cases (g 0) h0 with ⟨hb, e⟩ | ⟨hb, e⟩ | ⟨hb, e⟩ | ⟨hb, e⟩ | ⟨hb, e⟩ <;> rw [e] at h <;> simp only at h
  all_goals try omega
  all_goals rw [if_neg (by omega), if_neg (by omega), if_neg (by omega), if_neg (by omega)]
theorem ref_cont {j : Nat} (h1 : 1 ≤ j) (hj : j < (leadN (g 0)).1) (hg : g j / 64 ≠ 2) (h0 : g 0 < 256) : Lib.decodeN n (g 0) (g 1) (g 2) (g 3) = (65533, 1) := by
  have h4 : j = 1 ∨ j = 2 ∨ j = 3 := by have := lead_le (g 0) h0; omega
  unfold Lib.decodeN
  rcases lead_cases (g 0) h0 with ⟨hb, e⟩ | ⟨hb, e⟩ | ⟨hb, e⟩ | ⟨hb, e⟩ | ⟨hb, e⟩ <;> rw [e] at hj <;> simp only at hj
  all_goals try omega
  all_goals
    rcases h4 with rfl | rfl | rfl
    all_goals try omega
    all_goals rw [if_neg (by omega), if_neg (by omega), if_neg (by omega), if_neg (by omega)]
theorem wid_one {r : Nat} (h : r < 128) : widN r = 1 := by unfold widN; rw [if_neg (by omega), if_pos h]
theorem wid_two {r : Nat} (h : 128 ≤ r) (h2 : r < 2048) : widN r = 2 := by unfold widN; rw [if_neg (by omega), if_neg (by omega), if_pos h2]
theorem wid_bad {r : Nat} (h : 1114111 < r ∨ (55296 ≤ r ∧ r ≤ 57343)) : widN r = 0 := by unfold widN; rw [if_pos h]
theorem wid_three {r : Nat} (h : 2048 ≤ r) (h2 : r < 65536) (h3 : ¬ (55296 ≤ r ∧ r ≤ 57343)) : widN r = 3 := by unfold widN; rw [if_neg (by omega), if_neg (by omega), if_neg (by omega), if_pos h2]
theorem wid_four {r : Nat} (h : 65536 ≤ r) (h2 : r ≤ 1114111) : widN r = 4 := by unfold widN; rw [if_neg (by omega), if_neg (by omega), if_neg (by omega), if_neg (by omega)]
theorem ref_end {k m r : Nat} (hL : leadN (g 0) = (k, m)) (hk : k ≠ 0) (hn : k ≤ n) (hc : ∀ j, 1 ≤ j → j < k → g j / 64 = 2) (h0 : g 0 < 256) (hr : foldN g m (k - 1) = r) :
    (widN r = k → Lib.decodeN n (g 0) (g 1) (g 2) (g 3) = (r, k)) ∧ (widN r ≠ k → Lib.decodeN n (g 0) (g 1) (g 2) (g 3) = (65533, 1)) := by
  have c1 := hc 1
  have c2 := hc 2
  have c3 := hc 3
  clear hc
  unfold Lib.decodeN
  rcases lead_cases (g 0) h0 with ⟨hb, e⟩ | ⟨hb, e⟩ | ⟨hb, e⟩ | ⟨hb, e⟩ | ⟨hb, e⟩ <;> rw [e] at hL <;> injection hL with e1 e2 <;> subst e1 <;> subst e2 <;> simp only [foldN, Nat.reduceAdd, Nat.reduceSub] at hr
  · subst hr
    rw [if_pos hb, wid_one hb]
    exact ⟨fun _ => rfl, fun h => absurd rfl h⟩
  · have hr2 : r < 2048 := by omega
    rw [if_neg (by omega), if_pos (by omega), hr]
    by_cases h : r ≥ 128
    · rw [if_pos h, wid_two h hr2]
      exact ⟨fun _ => rfl, fun h => absurd rfl h⟩
    · rw [if_neg h, wid_one (by omega)]
      exact ⟨fun h => by omega, fun _ => rfl⟩
  · rw [show (g 0 % 16 * 64 + g 1 % 64) * 64 + g 2 % 64 = g 0 % 16 * 4096 + g 1 % 64 * 64 + g 2 % 64 by omega] at hr
    have hr2 : r < 65536 := by omega
    rw [if_neg (by omega), if_neg (by omega), if_pos (by omega), hr]
    by_cases h : r ≥ 2048 ∧ (r < 55296 ∨ 57344 ≤ r ∧ r ≤ 1114111)
    · rw [if_pos h, wid_three h.1 hr2 (by omega)]
      exact ⟨fun _ => rfl, fun h => absurd rfl h⟩
    · rw [if_neg h]
      refine ⟨fun hw => ?_, fun _ => rfl⟩
      exfalso
      by_cases h2 : 55296 ≤ r ∧ r ≤ 57343
      · rw [wid_bad (.inr h2)] at hw; omega
      · by_cases h3 : r < 128
        · rw [wid_one h3] at hw; omega
        · rw [wid_two (by omega) (by omega)] at hw; omega
  · rw [show ((g 0 % 8 * 64 + g 1 % 64) * 64 + g 2 % 64) * 64 + g 3 % 64 = g 0 % 8 * 262144 + g 1 % 64 * 4096 + g 2 % 64 * 64 + g 3 % 64 by omega] at hr
    rw [if_neg (by omega), if_neg (by omega), if_neg (by omega), if_pos (by omega), hr]
    by_cases h : r ≥ 65536 ∧ (r < 55296 ∨ 57344 ≤ r ∧ r ≤ 1114111)
    · rw [if_pos h, wid_four h.1 (by omega)]
      exact ⟨fun _ => rfl, fun h => absurd rfl h⟩
    · rw [if_neg h]
      refine ⟨fun hw => ?_, fun _ => rfl⟩
      exfalso
      by_cases h2 : 1114111 < r ∨ (55296 ≤ r ∧ r ≤ 57343)
      · rw [wid_bad h2] at hw; omega
      · by_cases h3 : r < 128
        · rw [wid_one h3] at hw; omega
        · by_cases h4 : r < 2048
          · rw [wid_two (by omega) h4] at hw; omega
          · rw [wid_three (by omega) (by omega) (by omega)] at hw; omega
  · exact absurd rfl hk
theorem fold_bd (h0 : g 0 < 256) : ∀ j, j < (leadN (g 0)).1 → foldN g (leadN (g 0)).2 j < 2097152 := by
  intro j hj
  have hl := lead_le (g 0) h0
  rcases (by omega : j = 0 ∨ j = 1 ∨ j = 2 ∨ j = 3) with rfl | rfl | rfl | rfl
  all_goals
    rcases lead_cases (g 0) h0 with ⟨hb, e⟩ | ⟨hb, e⟩ | ⟨hb, e⟩ | ⟨hb, e⟩ | ⟨hb, e⟩ <;> rw [e] at hj ⊢ <;> simp only [foldN] at hj ⊢ <;> omega
end
set_option maxRecDepth 100000 in
theorem cont_test (b : Nat) (hb : b < 256) : ((bits BinOp.and IntKind.u8 (b : Int) 192) != (128 : Int)) = !(decide (b / 64 = 2)) := by
  have h1 := u8_and_nat b 192 hb (by omega)
  have h2 : ∀ x : Nat, x < 256 → ((x &&& 192) = 128 ↔ x / 64 = 2) := by decide
  rw [show ((192 : Nat) : Int) = 192 from rfl] at h1
  rw [h1, bne]
  congr 1
  rw [Bool.eq_iff_iff, beq_iff_eq, decide_eq_true_iff, ← h2 b hb]
  omega
set_option maxHeartbeats 1000000 in
theorem tRune_any (r : Nat) (w : World) : Calls Tryz.prog 151 #[.int .i32 (r : Nat)] w fun e w' => e = .returned (.bool (!decide (widN r = 0))) ∧ w = w' := by
  have hv : (!decide (widN r = 0)) = (decide (r ≤ 1114111) && (decide (r < 55296) || decide (57343 < r))) := by
    rw [Bool.eq_iff_iff]
    simp only [Bool.not_eq_true', decide_eq_false_iff_not, Bool.and_eq_true, Bool.or_eq_true, decide_eq_true_eq]
    unfold widN
    repeat' split
    all_goals omega
  rw [hv]
  have q0 : decide ((0 : Int) ≤ (r : Int)) = true := decide_eq_true (by omega)
  by_cases h1 : r ≤ 1114111
  · have q1 : decide ((r : Int) ≤ 1114111) = true := decide_eq_true (by omega)
    by_cases h2 : r < 55296
    · have q2 : decide ((r : Int) < 55296) = true := decide_eq_true (by omega)
      rw [decide_eq_true h1, decide_eq_true h2]
      clear h1 h2
      go_enter Tryz.func151, Tryz.ntmps151
      go_wp2
      go_ret
      exact ⟨rfl, rfl⟩
    · have q2 : decide ((r : Int) < 55296) = false := decide_eq_false (by omega)
      obtain ⟨q, hq⟩ : ∃ q, decide ((57343 : Int) < (r : Int)) = q := ⟨_, rfl⟩
      have hq2 : decide (57343 < r) = q := by rw [← hq]; exact decide_eq_decide.2 (by omega)
      rw [decide_eq_true h1, decide_eq_false h2, hq2]
      clear h1 h2 hq2
      go_enter Tryz.func151, Tryz.ntmps151
      go_wp2
      go_ret
      exact ⟨rfl, rfl⟩
  · have q1 : decide ((r : Int) ≤ 1114111) = false := decide_eq_false (by omega)
    rw [decide_eq_false h1]
    clear h1
    go_enter Tryz.func151, Tryz.ntmps151
    go_wp2
    go_ret
    exact ⟨rfl, rfl⟩
set_option maxHeartbeats 1000000 in
theorem tWidth_any (r : Nat) (w : World) : Calls Tryz.prog 120 #[.int .i32 (r : Nat)] w fun e w' => e = .returned (.int .i64 (widN r : Nat)) ∧ w = w' := by
  have HR := Lib.hid (tRune_any r w)
  by_cases h0 : widN r = 0
  · rw [decide_eq_true h0] at HR
    rw [h0]
    go_enter Tryz.func120, Tryz.ntmps120
    go_wp2_with fail
    refine HR.out.mono ?_
    rintro e w1 ⟨rfl, rfl⟩
    go_wp2
    go_ret
    exact ⟨rfl, rfl⟩
  rw [decide_eq_false h0] at HR
  have hg : ¬ (1114111 < r ∨ (55296 ≤ r ∧ r ≤ 57343)) := fun h => h0 (by unfold widN; rw [if_pos h])
  have hw : widN r = if r < 128 then 1 else if r < 2048 then 2 else if r < 65536 then 3 else 4 := by unfold widN; rw [if_neg hg]
  rw [hw]
  clear hw hg h0
  by_cases h1 : r < 128
  · have q1 : decide ((r : Int) < 128) = true := decide_eq_true (by omega)
    rw [if_pos h1]
    clear h1
    go_enter Tryz.func120, Tryz.ntmps120
    go_wp2_with fail
    refine HR.out.mono ?_
    rintro e w1 ⟨rfl, rfl⟩
    go_wp2
    go_ret
    exact ⟨rfl, rfl⟩
  have q1 : decide ((r : Int) < 128) = false := decide_eq_false (by omega)
  rw [if_neg h1]
  by_cases h2 : r < 2048
  · have q2 : decide ((r : Int) < 2048) = true := decide_eq_true (by omega)
    rw [if_pos h2]
    clear h1 h2
    go_enter Tryz.func120, Tryz.ntmps120
    go_wp2_with fail
    refine HR.out.mono ?_
    rintro e w1 ⟨rfl, rfl⟩
    go_wp2
    go_ret
    exact ⟨rfl, rfl⟩
  have q2 : decide ((r : Int) < 2048) = false := decide_eq_false (by omega)
  rw [if_neg h2]
  by_cases h3 : r < 65536
  · have q3 : decide ((r : Int) < 65536) = true := decide_eq_true (by omega)
    rw [if_pos h3]
    clear h1 h2 h3
    go_enter Tryz.func120, Tryz.ntmps120
    go_wp2_with fail
    refine HR.out.mono ?_
    rintro e w1 ⟨rfl, rfl⟩
    go_wp2
    go_ret
    exact ⟨rfl, rfl⟩
  have q3 : decide ((r : Int) < 65536) = false := decide_eq_false (by omega)
  rw [if_neg h3]
  clear h1 h2 h3
  go_enter Tryz.func120, Tryz.ntmps120
  go_wp2_with fail
  refine HR.out.mono ?_
  rintro e w1 ⟨rfl, rfl⟩
  go_wp2
  go_ret
  exact ⟨rfl, rfl⟩
set_option maxHeartbeats 1000000 in
theorem tlead_any (c : Nat) (hc : c < 256) (w : World) : Calls Tryz.prog 119 #[.int .u8 (c : Nat)] w fun e w' => e = .returned (.tuple #[.int .i64 ((leadN c).1 : Nat), .int .i32 ((leadN c).2 : Nat)]) ∧ w = w' := by
  have m31 : bits BinOp.and IntKind.u8 (c : Int) 31 = ((c % 32 : Nat) : Int) := by
    have h := u8_and_nat c 31 hc (by omega)
    rw [nat_mask5, show ((31 : Nat) : Int) = 31 from rfl] at h
    exact h
  have m15 : bits BinOp.and IntKind.u8 (c : Int) 15 = ((c % 16 : Nat) : Int) := by
    have h := u8_and_nat c 15 hc (by omega)
    rw [nat_mask4, show ((15 : Nat) : Int) = 15 from rfl] at h
    exact h
  have m7 : bits BinOp.and IntKind.u8 (c : Int) 7 = ((c % 8 : Nat) : Int) := by
    have h := u8_and_nat c 7 hc (by omega)
    rw [nat_mask3, show ((7 : Nat) : Int) = 7 from rfl] at h
    exact h
  obtain ⟨a, ha⟩ : ∃ a, c % 32 = a := ⟨_, rfl⟩
  obtain ⟨b, hb⟩ : ∃ b, c % 16 = b := ⟨_, rfl⟩
  obtain ⟨d, hd⟩ : ∃ d, c % 8 = d := ⟨_, rfl⟩
  have ha' : a < 32 := by omega
  have hb' : b < 16 := by omega
  have hd' : d < 8 := by omega
  by_cases h1 : c < 128
  · have q1 : decide ((c : Int) < 128) = true := decide_eq_true (by omega)
    have hv : leadN c = (1, c) := if_pos h1
    rw [hv]
    clear h1 m31 m15 m7 ha hb hd
    go_enter Tryz.func119, Tryz.ntmps119
    go_wp2
    go_ret2
    exact ⟨rfl, rfl⟩
  have q1 : decide ((c : Int) < 128) = false := decide_eq_false (by omega)
  by_cases h2 : 192 ≤ c ∧ c < 224
  · have q2 : decide ((192 : Int) ≤ (c : Int)) = true := decide_eq_true (by omega)
    have q3 : decide ((c : Int) < 224) = true := decide_eq_true (by omega)
    have hv : leadN c = (2, a) := by unfold leadN; rw [if_neg h1, if_pos h2, ha]
    rw [hv]
    rw [ha] at m31
    clear h1 h2 m15 m7 ha hb hd
    go_enter Tryz.func119, Tryz.ntmps119
    go_wp2
    go_ret2
    exact ⟨rfl, rfl⟩
  by_cases h3 : 224 ≤ c ∧ c < 240
  · have q2 : decide ((192 : Int) ≤ (c : Int)) = true := decide_eq_true (by omega)
    have q3 : decide ((c : Int) < 224) = false := decide_eq_false (by omega)
    have q4 : decide ((224 : Int) ≤ (c : Int)) = true := decide_eq_true (by omega)
    have q5 : decide ((c : Int) < 240) = true := decide_eq_true (by omega)
    have hv : leadN c = (3, b) := by unfold leadN; rw [if_neg h1, if_neg h2, if_pos h3, hb]
    rw [hv]
    rw [hb] at m15
    clear h1 h2 h3 m31 m7 ha hb hd
    go_enter Tryz.func119, Tryz.ntmps119
    go_wp2
    go_ret2
    exact ⟨rfl, rfl⟩
  by_cases h4 : 240 ≤ c ∧ c < 248
  · have q2 : decide ((192 : Int) ≤ (c : Int)) = true := decide_eq_true (by omega)
    have q3 : decide ((c : Int) < 224) = false := decide_eq_false (by omega)
    have q4 : decide ((224 : Int) ≤ (c : Int)) = true := decide_eq_true (by omega)
    have q5 : decide ((c : Int) < 240) = false := decide_eq_false (by omega)
    have q6 : decide ((240 : Int) ≤ (c : Int)) = true := decide_eq_true (by omega)
    have q7 : decide ((c : Int) < 248) = true := decide_eq_true (by omega)
    have hv : leadN c = (4, d) := by unfold leadN; rw [if_neg h1, if_neg h2, if_neg h3, if_pos h4, hd]
    rw [hv]
    rw [hd] at m7
    clear h1 h2 h3 h4 m31 m15 ha hb hd
    go_enter Tryz.func119, Tryz.ntmps119
    go_wp2
    go_ret2
    exact ⟨rfl, rfl⟩
  have hv : leadN c = (0, 0) := by unfold leadN; rw [if_neg h1, if_neg h2, if_neg h3, if_neg h4]
  rw [hv]
  clear m31 m15 m7 ha hb hd hv
  by_cases h5 : c < 192
  · have q2 : decide ((192 : Int) ≤ (c : Int)) = false := decide_eq_false (by omega)
    have q4 : decide ((224 : Int) ≤ (c : Int)) = false := decide_eq_false (by omega)
    have q6 : decide ((240 : Int) ≤ (c : Int)) = false := decide_eq_false (by omega)
    clear h1 h2 h3 h4 h5
    go_enter Tryz.func119, Tryz.ntmps119
    go_wp2
    go_ret2
    exact ⟨rfl, rfl⟩
  · have q2 : decide ((192 : Int) ≤ (c : Int)) = true := decide_eq_true (by omega)
    have q3 : decide ((c : Int) < 224) = false := decide_eq_false (by omega)
    have q4 : decide ((224 : Int) ≤ (c : Int)) = true := decide_eq_true (by omega)
    have q5 : decide ((c : Int) < 240) = false := decide_eq_false (by omega)
    have q6 : decide ((240 : Int) ≤ (c : Int)) = true := decide_eq_true (by omega)
    have q7 : decide ((c : Int) < 248) = false := decide_eq_false (by omega)
    clear h1 h2 h3 h4 h5
    go_enter Tryz.func119, Tryz.ntmps119
    go_wp2
    go_ret2
    exact ⟨rfl, rfl⟩
theorem get_at (s : ByteArray) {p : Nat} (hp : p < s.size) : s.get! p = s[p]'hp := by
  rw [← Lib.getD_get!', List.getD_eq_getElem?_getD, List.getElem?_eq_getElem (by rw [size_data]; exact hp)]; rfl
set_option maxRecDepth 100000 in
set_option maxHeartbeats 4000000 in
theorem tDecode_any (s : ByteArray) (w : World) (hs : 0 < s.size) (hz : s.size ≤ 1000000) :
    Calls Tryz.prog 105 #[.string s] w fun e w' => e = .returned (.tuple #[.int .i32 ((Utf8.decode s 0).1 : Nat), .int .i64 ((Utf8.decode s 0).2 : Nat)]) ∧ w = w' := by
  obtain ⟨g, hg⟩ : ∃ g : Nat → Nat, g = fun j => (s.get! j).toNat := ⟨_, rfl⟩
  have hg0 : ∀ j, g j < 256 := fun j => by rw [hg]; exact (s.get! j).toNat_lt
  have HI := Lib.hid (fun (p : Nat) (hp : p < s.size) => show ((s[p]'hp).toNat : Int) = (g p : Int) by rw [hg]; simp only; rw [get_at s hp])
  have HD : Hid (Utf8.decode s 0 = Lib.decodeN s.size (g 0) (g 1) (g 2) (g 3)) := Lib.hid (by rw [hg]; exact Lib.decode_at s 0)
  clear hg
  obtain ⟨⟨k, m⟩, HL⟩ : ∃ x, Hid (leadN (g 0) = x) := ⟨_, Lib.hid rfl⟩
  have hk4 : k ≤ 4 := by have := lead_le (g 0) (hg0 0); rw [HL.out] at this; exact this
  have HLd := Lib.hid (fun W => tlead_any (g 0) (hg0 0) W)
  rw [HL.out] at HLd
  simp only at HLd
  have hx0 : ∀ W ty, (Instr.index ty (.string s) (.int .i64 0)).run Tryz.prog W = (Instr.index ty (.string s) (.int .i64 0)).run Tryz.prog W := fun _ _ => rfl
  clear hx0
  have hi0 : ∀ W, (Instr.index 9 (.string s) (.int .i64 0)).run Tryz.prog W = .ok (.int .u8 (g 0 : Int)) W := fun W => by rw [index_at s 0 0 rfl hs W, HI.out 0 hs]
  have hsz : ((s.size : Int) == 0) = false := beq_eq_false_iff_ne.2 (by omega)
  by_cases hk0 : k = 0
  · subst hk0
    have HV : Hid (Utf8.decode s 0 = (65533, 1)) := Lib.hid (by rw [HD.out]; exact ref_none (by rw [HL.out]) (hg0 0))
    rw [HV.out]
    go_enter Tryz.func105, Tryz.ntmps105
    go_wp2_with fail
    refine (HLd.out _).mono ?_
    rintro e w1 ⟨rfl, rfl⟩
    go_wp2
    go_ret2
    exact ⟨rfl, rfl⟩
  have hk0' : ((k : Int) == 0) = false := beq_eq_false_iff_ne.2 (by omega)
  by_cases hkn : s.size < k
  · have HV : Hid (Utf8.decode s 0 = (65533, 1)) := Lib.hid (by rw [HD.out]; exact ref_short (by rw [HL.out]; exact hkn) hs (hg0 0))
    rw [HV.out]
    have q1 : decide (s.size < k) = true := decide_eq_true hkn
    clear hkn hk0
    go_enter Tryz.func105, Tryz.ntmps105
    go_wp2_with fail
    refine (HLd.out _).mono ?_
    rintro e w1 ⟨rfl, rfl⟩
    go_wp2
    go_ret2
    exact ⟨rfl, rfl⟩
  have q1 : decide (s.size < k) = false := decide_eq_false hkn
  have hkn' : k ≤ s.size := by omega
  have hk1 : 1 ≤ k := by omega
  have HB := Lib.hid (fun j (hj : j < k) => show foldN g m j < 2097152 from by have := fold_bd (g := g) (hg0 0) j (by rw [HL.out]; exact hj); rw [HL.out] at this; exact this)
  have HC := Lib.hid (fun j (h1 : 1 ≤ j) (hj : j < k) (h : g j / 64 ≠ 2) => show Utf8.decode s 0 = (65533, 1) by rw [HD.out]; exact ref_cont h1 (by rw [HL.out]; exact hj) h (hg0 0))
  have HE := Lib.hid (fun (hc : ∀ j, 1 ≤ j → j < k → g j / 64 = 2) => ref_end (n := s.size) HL.out hk0 hkn' hc (hg0 0) rfl)
  rw [← HD.out] at HE
  have HW := Lib.hid (fun r W => tWidth_any r W)
  clear hkn hk0
  go_enter Tryz.func105, Tryz.ntmps105
  go_wp2_with fail
  refine (HLd.out _).mono ?_
  rintro e w1 ⟨rfl, rfl⟩
  go_wp2_with fail
  go_loopw [5, 6] (fun u v wr => ∃ j : Nat, u = .int .i32 ((foldN g m j : Nat) : Int) ∧ v = .int .i64 ((j + 1 : Nat) : Int) ∧ j + 1 ≤ k ∧ Hid (∀ i, 1 ≤ i → i < j + 1 → g i / 64 = 2) ∧ wr = w) (fun _ v _ => k - (intOf v).toNat)
  case atStart => exact ⟨0, rfl, rfl, by omega, Lib.hid (fun i h1 h2 => by omega), rfl⟩
  case round =>
    obtain ⟨j, rfl, rfl, hj, HO, rfl⟩ := hrel
    obtain ⟨i, Hi⟩ : ∃ i, Hid (j + 1 = i) := ⟨_, Lib.hid rfl⟩
    rw [Hi.out] at HO hj ⊢
    by_cases hlt : i < k
    · have hb := HB.out j (by have := Hi.out; omega)
      have hib : i < s.size := by omega
      have hidx : ∀ W, (Instr.index 9 (.string s) (.int .i64 (i : Nat))).run Tryz.prog W = .ok (.int .u8 (g i : Int)) W := fun W => by rw [index_at s i i rfl hib W, HI.out i hib]
      have ht := cont_test (g i) (hg0 i)
      by_cases hc : g i / 64 = 2
      · have m63 : bits BinOp.and IntKind.u8 (g i : Int) 63 = ((g i % 64 : Nat) : Int) := by
          have h := u8_and_nat (g i) 63 (hg0 i) (by omega)
          rw [nat_mask6, show ((63 : Nat) : Int) = 63 from rfl] at h
          exact h
        have Hf := Lib.hid (show foldN g m i = foldN g m j * 64 + g i % 64 by rw [← Hi.out]; rfl)
        have HO2 := Lib.hid (fun x h1 h2 => show g x / 64 = 2 by
          rcases (by omega : x < i ∨ x = i) with h3 | h3
          · exact HO.out x h1 h3
          · rw [h3]; exact hc)
        rw [decide_eq_true hc] at ht
        obtain ⟨c6, hc6⟩ : ∃ c6, g i % 64 = c6 := ⟨_, rfl⟩
        have hc64 : c6 < 64 := by omega
        rw [hc6] at m63 Hf
        generalize foldN g m j = f at hb Hf ⊢
        have hor : bits BinOp.or IntKind.i32 ((f : Int) * 64) (c6 : Int) = ((f * 64 + c6 : Nat) : Int) := by
          have := i32_or6 (x := (f : Int) * 64) (y := (c6 : Int)) (by omega) (by omega) (by omega) (by omega) (by omega)
          rw [this]; omega
        clear hc hc6
        go_wp2
        go_roundw
        case rel => exact ⟨i, by rw [Hf.out]; congr 1, by congr 1, by omega, Lib.hid (fun x h1 h2 => HO2.out x h1 (by omega)), by first | rfl | trivial⟩
        case measure => simp [intOf]; omega
      · have HV := Lib.hid (HC.out i (by have := Hi.out; omega) hlt hc)
        rw [decide_eq_false hc] at ht
        clear hc
        go_wp2
        go_ret2
        exact ⟨by rw [HV.out]; rfl, rfl⟩
    · obtain rfl : i = k := by omega
      have HE2 := Lib.hid (HE.out HO.out)
      have e3 : i - 1 = j := by have := Hi.out; omega
      rw [e3] at HE2
      have HWf := Lib.hid (fun W => HW.out (foldN g m j) W)
      generalize foldN g m j = f at HE2 HWf ⊢
      obtain ⟨wd, Hwd⟩ : ∃ x, Hid (widN f = x) := ⟨_, Lib.hid rfl⟩
      rw [Hwd.out] at HWf HE2
      by_cases hw : wd = i
      · have HV := Lib.hid (HE2.out.1 hw)
        have t5 : ((wd : Int) != (i : Int)) = false := by rw [hw]; simp
        clear hw e3
        go_wp2_with fail
        refine (HWf.out _).mono ?_
        rintro e w3 ⟨rfl, rfl⟩
        go_wp2
        go_ret2
        exact ⟨by rw [HV.out]; rfl, rfl⟩
      · have HV := Lib.hid (HE2.out.2 hw)
        have t5 : ((wd : Int) != (i : Int)) = true := by rw [bne_iff_ne]; omega
        clear hw e3
        go_wp2_with fail
        refine (HWf.out _).mono ?_
        rintro e w3 ⟨rfl, rfl⟩
        go_wp2
        go_ret2
        exact ⟨by rw [HV.out]; rfl, rfl⟩
end Go.Proofs.YtdnkignhenkamaaGreatDoor

/- -/
namespace Go.Proofs.YtdnkignhenkamaaGreatDoor
end Go.Proofs.YtdnkignhenkamaaGreatDoor

/- -/
namespace Go.Proofs.YtdnkignhenkamaaGreatDoor
inductive El where
  | one (cs : List Nat)
  | many (cs : List Nat)
  | may (cs : List Nat)
def elL : El → List Nat → Prop
  | .one cs, u => One cs u
  | .many cs, u => ∀ x ∈ u, x ∈ cs
  | .may cs, u => u = [] ∨ One cs u
def elsL : List El → List Nat → Prop
  | [], u => u = []
  | e :: es, u => ∃ v w, u = v ++ w ∧ elL e v ∧ elsL es w
def eat : List El → List Nat → Bool
  | [], _ => true
  | .one _ :: _, [] => false
  | .one cs :: es, x :: r => cs.contains x && eat es r
  | .many cs :: es, r => eat es (r.dropWhile fun x => cs.contains x)
  | .may _ :: es, [] => eat es []
  | .may cs :: es, x :: r => if cs.contains x then eat es r else eat es (x :: r)
def skips : List El → Nat → Bool
  | [], _ => true
  | .one cs :: _, x => !cs.contains x
  | .many cs :: es, x => cs.contains x || skips es x
  | .may cs :: es, x => cs.contains x || skips es x
def okE : List El → Bool
  | [] => true
  | .one _ :: es => okE es
  | .many cs :: es => cs.all (skips es) && okE es
  | .may cs :: es => cs.all (skips es) && okE es
theorem drop_grow {cs : List Nat} {K : List Nat → Bool} (h : ∀ x r, x ∈ cs → K (x :: r) = true → K r = true) : ∀ r, K r = true → K (r.dropWhile fun x => cs.contains x) = true
  | [], hk => hk
  | x :: r, hk => by
    rw [List.dropWhile_cons]
    split
    · rename_i hx
      exact drop_grow h r (h x r (by simpa using hx) hk)
    · exact hk
theorem may_grow {cs : List Nat} {es : List El} (h : ∀ x r, x ∈ cs → eat es (x :: r) = true → eat es r = true) : ∀ r, eat es r = true → eat (.may cs :: es) r = true
  | [], hk => by rw [eat]; exact hk
  | x :: r, hk => by
    rw [eat]
    split
    · rename_i hx
      exact h x r (by simpa using hx) hk
    · exact hk
theorem skip_ok : ∀ (es : List El), okE es = true → ∀ x r, skips es x = true → eat es (x :: r) = true → eat es r = true
  | [], _, _, _, _, _ => by rw [eat]
  | .one cs :: es, _, x, r, hs, he => by
    rw [eat] at he
    rw [skips] at hs
    rw [Bool.not_eq_true'] at hs
    rw [hs] at he
    cases he
  | .many cs :: es, ho, x, r, hs, he => by
    rw [okE, Bool.and_eq_true, List.all_eq_true] at ho
    rw [skips] at hs
    rw [eat] at he ⊢
    rw [List.dropWhile_cons] at he
    cases hx : cs.contains x with
    | true => rw [if_pos hx] at he; exact he
    | false =>
      rw [if_neg (by rw [hx]; simp)] at he
      rw [hx, Bool.false_or] at hs
      exact drop_grow (fun y r hy hk => skip_ok es ho.2 y r (ho.1 y hy) hk) r (skip_ok es ho.2 x r hs he)
  | .may cs :: es, ho, x, r, hs, he => by
    rw [okE, Bool.and_eq_true, List.all_eq_true] at ho
    rw [skips] at hs
    rw [eat] at he
    have hg := may_grow (cs := cs) (es := es) (fun y r hy hk => skip_ok es ho.2 y r (ho.1 y hy) hk)
    cases hx : cs.contains x with
    | true => rw [if_pos hx] at he; exact hg r he
    | false =>
      rw [if_neg (by rw [hx]; simp)] at he
      rw [hx, Bool.false_or] at hs
      exact hg r (skip_ok es ho.2 x r hs he)
theorem drop_run {cs : List Nat} : ∀ (v r : List Nat), (∀ x ∈ v, x ∈ cs) → ((v ++ r).dropWhile fun x => cs.contains x) = r.dropWhile fun x => cs.contains x
  | [], _, _ => rfl
  | x :: v, r, h => by
    rw [List.cons_append, List.dropWhile_cons, if_pos (by simpa using h x (by simp))]
    exact drop_run v r fun y hy => h y (List.mem_cons_of_mem _ hy)
theorem take_in (cs : List Nat) : ∀ (r : List Nat), ∀ x ∈ r.takeWhile (fun x => cs.contains x), x ∈ cs
  | [], x, h => by simp at h
  | y :: r, x, h => by
    rw [List.takeWhile_cons] at h
    split at h
    · rename_i hy
      rcases List.mem_cons.1 h with rfl | h
      · simpa using hy
      · exact take_in cs r x h
    · simp at h
theorem eat_iff : ∀ (es : List El), okE es = true → ∀ r, eat es r = true ↔ ∃ v u, r = v ++ u ∧ elsL es v
  | [], _, r => by rw [eat]; exact ⟨fun _ => ⟨[], r, rfl, rfl⟩, fun _ => rfl⟩
  | .one cs :: es, ho, r => by
    rw [okE] at ho
    constructor
    · intro h
      cases r with
      | nil => rw [eat] at h; cases h
      | cons x r =>
        rw [eat, Bool.and_eq_true] at h
        obtain ⟨v, u, rfl, hv⟩ := (eat_iff es ho r).1 h.2
        exact ⟨x :: v, u, rfl, [x], v, rfl, ⟨x, rfl, by simpa using h.1⟩, hv⟩
    · rintro ⟨_, u, rfl, _, v, rfl, ⟨x, rfl, hx⟩, hv⟩
      rw [List.append_assoc, List.singleton_append, eat, Bool.and_eq_true]
      exact ⟨by simpa using hx, (eat_iff es ho _).2 ⟨v, u, rfl, hv⟩⟩
  | .many cs :: es, ho, r => by
    rw [okE, Bool.and_eq_true, List.all_eq_true] at ho
    rw [eat]
    constructor
    · intro h
      obtain ⟨v, u, e, hv⟩ := (eat_iff es ho.2 _).1 h
      refine ⟨r.takeWhile (fun x => cs.contains x) ++ v, u, ?_, _, v, rfl, take_in cs r, hv⟩
      rw [List.append_assoc, ← e, List.takeWhile_append_dropWhile]
    · rintro ⟨_, u, rfl, w, v, rfl, hw, hv⟩
      rw [List.append_assoc, drop_run w _ hw]
      exact drop_grow (fun y r hy hk => skip_ok es ho.2 y r (ho.1 y hy) hk) _ ((eat_iff es ho.2 _).2 ⟨v, u, rfl, hv⟩)
  | .may cs :: es, ho, r => by
    rw [okE, Bool.and_eq_true, List.all_eq_true] at ho
    constructor
    · intro h
      cases r with
      | nil =>
        rw [eat] at h
        obtain ⟨v, u, e, hv⟩ := (eat_iff es ho.2 _).1 h
        exact ⟨v, u, e, [], v, rfl, .inl rfl, hv⟩
      | cons x r =>
        rw [eat] at h
        split at h
        · rename_i hx
          obtain ⟨v, u, rfl, hv⟩ := (eat_iff es ho.2 _).1 h
          exact ⟨x :: v, u, rfl, [x], v, rfl, .inr ⟨x, rfl, by simpa using hx⟩, hv⟩
        · obtain ⟨v, u, e, hv⟩ := (eat_iff es ho.2 _).1 h
          exact ⟨v, u, e, [], v, rfl, .inl rfl, hv⟩
    · rintro ⟨_, u, rfl, _, v, rfl, rfl | ⟨x, rfl, hx⟩, hv⟩
      · rw [List.nil_append]
        exact may_grow (fun y r hy hk => skip_ok es ho.2 y r (ho.1 y hy) hk) _ ((eat_iff es ho.2 _).2 ⟨v, u, rfl, hv⟩)
      · rw [List.append_assoc, List.singleton_append, eat, if_pos (by simpa using hx)]
        exact (eat_iff es ho.2 _).2 ⟨v, u, rfl, hv⟩
theorem els_app : ∀ (a b : List El) (u : List Nat), elsL (a ++ b) u ↔ ∃ v w, u = v ++ w ∧ elsL a v ∧ elsL b w
  | [], b, u => by
    constructor
    · intro h; exact ⟨[], u, rfl, rfl, h⟩
    · rintro ⟨_, w, rfl, rfl, h⟩; exact h
  | e :: a, b, u => by
    rw [List.cons_append, elsL]
    constructor
    · rintro ⟨v, w, rfl, hv, hw⟩
      obtain ⟨x, y, rfl, hx, hy⟩ := (els_app a b w).1 hw
      exact ⟨v ++ x, y, by rw [List.append_assoc], ⟨v, x, rfl, hv, hx⟩, hy⟩
    · rintro ⟨_, w, rfl, ⟨v, x, rfl, hv, hx⟩, hw⟩
      exact ⟨v, x ++ w, by rw [List.append_assoc], hv, (els_app a b _).2 ⟨x, w, rfl, hx, hw⟩⟩
theorem el_rev (e : El) (u : List Nat) : elL e u.reverse ↔ elL e u := by
  cases e with
  | one cs => simp only [elL, One, List.reverse_eq_iff, List.reverse_singleton]
  | many cs => simp [elL]
  | may cs => simp only [elL, One, List.reverse_eq_iff, List.reverse_singleton, List.reverse_nil]
theorem els_rev : ∀ (es : List El) (u : List Nat), elsL es.reverse u.reverse ↔ elsL es u
  | [], u => by simp [elsL]
  | e :: es, u => by
    rw [List.reverse_cons, els_app]
    constructor
    · rintro ⟨v, w, h, hv, x, y, rfl, hx, rfl⟩
      rw [List.append_nil] at h
      have h2 : u = x.reverse ++ v.reverse := by rw [← List.reverse_append, ← h, List.reverse_reverse]
      exact ⟨x.reverse, v.reverse, h2, (el_rev e x).2 hx, (els_rev es v.reverse).1 (by rw [List.reverse_reverse]; exact hv)⟩
    · rintro ⟨v, w, rfl, hv, hw⟩
      exact ⟨w.reverse, v.reverse, by rw [List.reverse_append], (els_rev es w).2 hw, v.reverse, [], by simp, (el_rev e v).2 hv, rfl⟩
theorem ahead_els {es : List El} (ho : okE es.reverse = true) (a : List Nat) : Ahead false (elsL es) a ↔ eat es.reverse a.reverse = true := by
  rw [eat_iff _ ho]
  constructor
  · rintro ⟨u, v, rfl, _, hv⟩
    exact ⟨v.reverse, u.reverse, by rw [List.reverse_append], (els_rev es v).2 hv⟩
  · rintro ⟨v, u, h, hv⟩
    refine ⟨u.reverse, v.reverse, by rw [← List.reverse_append, ← h, List.reverse_reverse], (fun h => by cases h), (els_rev es v.reverse).1 (by rw [List.reverse_reverse]; exact hv)⟩
theorem behind_els {es : List El} (ho : okE es = true) (b : List Nat) : Behind false (elsL es) b ↔ eat es b = true := by
  rw [eat_iff _ ho]
  exact ⟨fun ⟨u, v, e, _, h⟩ => ⟨u, v, e, h⟩, fun ⟨u, v, e, h⟩ => ⟨u, v, e, (fun h => by cases h), h⟩⟩
def oneP : Pat → Option (List Nat)
  | .node 1 cs _ => some cs
  | _ => none
def onesP : List Pat → Option (List Nat)
  | [] => some []
  | p :: r => match oneP p, onesP r with
    | some a, some b => some (a ++ b)
    | _, _ => none
def setP1 : Pat → Option (List Nat)
  | .node 1 cs _ => some cs
  | .node 3 _ ks => onesP ks
  | _ => none
def elP : Pat → Option El
  | .node 4 _ [p] => (setP1 p).map .many
  | .node 6 _ [p] => (setP1 p).map .may
  | p => (setP1 p).map .one
def elsP1 : List Pat → Option (List El)
  | [] => some []
  | p :: r => match elP p, elsP1 r with
    | some a, some b => some (a :: b)
    | _, _ => none
def elsP : Pat → Option (List El)
  | .node 0 _ _ => some []
  | .node 2 _ ks => elsP1 ks
  | p => (elP p).map fun e => [e]
theorem oneP_ok {p : Pat} {cs : List Nat} (h : oneP p = some cs) (u : List Nat) : Lang p u ↔ One cs u := by
  unfold oneP at h
  split at h
  · injection h with h; subst h; exact lang_set _ _ u
  · cases h
theorem onesP_ok : ∀ {l : List Pat} {cs : List Nat}, onesP l = some cs → ∀ u, LangO l u ↔ One cs u
  | [], cs, h, u => by
    rw [onesP] at h; injection h with h; subst h
    simp [LangO, One]
  | p :: r, cs, h, u => by
    rw [onesP] at h
    split at h
    · rename_i a b ha hb
      injection h with h; subst h
      rw [LangO]
      show (Lang p u ∨ LangO r u) ↔ _
      rw [oneP_ok ha, onesP_ok hb]
      unfold One
      constructor
      · rintro (⟨x, e, h⟩ | ⟨x, e, h⟩)
        · exact ⟨x, e, List.mem_append.2 (.inl h)⟩
        · exact ⟨x, e, List.mem_append.2 (.inr h)⟩
      · rintro ⟨x, e, h⟩
        rcases List.mem_append.1 h with h | h
        · exact .inl ⟨x, e, h⟩
        · exact .inr ⟨x, e, h⟩
    · cases h
theorem setP1_ok {p : Pat} {cs : List Nat} (h : setP1 p = some cs) (u : List Nat) : Lang p u ↔ One cs u := by
  unfold setP1 at h
  split at h
  · injection h with h; subst h; exact lang_set _ _ u
  · rw [lang_or]; exact onesP_ok h u
  · cases h
theorem star_set (cs : List Nat) (u : List Nat) : Star (One cs) u ↔ ∀ x ∈ u, x ∈ cs := by
  constructor
  · intro h
    induction h with
    | nil => simp
    | app h1 _ ih =>
      obtain ⟨x, rfl, hx⟩ := h1
      intro y hy
      rcases List.mem_cons.1 hy with rfl | hy
      · exact hx
      · exact ih y hy
  · intro h
    induction u with
    | nil => exact .nil
    | cons x u ih => exact .app (u := [x]) ⟨x, rfl, h x (by simp)⟩ (ih fun y hy => h y (List.mem_cons_of_mem _ hy))
theorem elP_ok {p : Pat} {e : El} (h : elP p = some e) (u : List Nat) : Lang p u ↔ elL e u := by
  unfold elP at h
  split at h
  · obtain ⟨cs, h1, rfl⟩ := Option.map_eq_some_iff.1 h
    rw [lang_many, elL, ← star_set]
    exact star_congr (setP1_ok h1) u
  · obtain ⟨cs, h1, rfl⟩ := Option.map_eq_some_iff.1 h
    rw [lang_may, elL, setP1_ok h1]
  · obtain ⟨cs, h1, rfl⟩ := Option.map_eq_some_iff.1 h
    rw [elL, setP1_ok h1]
theorem elsP1_ok : ∀ {l : List Pat} {es : List El}, elsP1 l = some es → ∀ u, LangT l u ↔ elsL es u
  | [], es, h, u => by rw [elsP1] at h; injection h with h; subst h; simp [LangT, elsL]
  | p :: r, es, h, u => by
    rw [elsP1] at h
    split at h
    · rename_i a b ha hb
      injection h with h; subst h
      rw [LangT, elsL]
      constructor
      · rintro ⟨v, w, e, h1, h2⟩
        exact ⟨v, w, e, (elP_ok ha v).1 h1, (elsP1_ok hb w).1 h2⟩
      · rintro ⟨v, w, e, h1, h2⟩
        exact ⟨v, w, e, (elP_ok ha v).2 h1, (elsP1_ok hb w).2 h2⟩
    · cases h
theorem elsP_ok {p : Pat} {es : List El} (h : elsP p = some es) (u : List Nat) : Lang p u ↔ elsL es u := by
  unfold elsP at h
  split at h
  · injection h with h; subst h; rw [lang_empty]; rfl
  · rw [lang_then]; exact elsP1_ok h u
  · obtain ⟨e, h1, rfl⟩ := Option.map_eq_some_iff.1 h
    rw [elsL, elP_ok h1]
    constructor
    · intro h; exact ⟨u, [], by simp, h, rfl⟩
    · rintro ⟨v, _, rfl, h, rfl⟩; rw [List.append_nil]; exact h
structure RB where
  cut : Bool
  f : List Nat → Bool
  g : List Nat → Bool
structure Eats (r : RuleP) (x : RB) : Prop where
  cut : r.cut = x.cut
  left : ∀ a, Ahead r.start (Lang r.left) a ↔ x.f a.reverse = true
  right : ∀ b, Behind r.stop (Lang r.right) b ↔ x.g b = true
theorem Eats.els {r : RuleP} {cut : Bool} {es fs : List El} (hc : r.cut = cut) (hs : r.start = false) (ht : r.stop = false) (h1 : ∀ u, Lang r.left u ↔ elsL es.reverse u) (h2 : ∀ u, Lang r.right u ↔ elsL fs u) (o1 : okE es = true) (o2 : okE fs = true) : Eats r ⟨cut, eat es, eat fs⟩ :=
  ⟨hc, fun a => by
    rw [hs]
    have := ahead_els (es := es.reverse) (by rw [List.reverse_reverse]; exact o1) a
    rw [List.reverse_reverse] at this
    exact (Ahead.congr h1 a).trans this, fun b => by rw [ht]; exact (Behind.congr h2 b).trans (behind_els o2 b)⟩
theorem Eats.pat {cut : Bool} {p q : Pat} {es fs : List El} (h1 : elsP p = some es.reverse) (h2 : elsP q = some fs) (o1 : okE es = true) (o2 : okE fs = true) : Eats ⟨cut, false, false, p, q⟩ ⟨cut, eat es, eat fs⟩ :=
  Eats.els rfl rfl rfl (elsP_ok h1) (elsP_ok h2) o1 o2
end Go.Proofs.YtdnkignhenkamaaGreatDoor

/- -/
namespace Go.Proofs.YtdnkignhenkamaaGreatDoor
end Go.Proofs.YtdnkignhenkamaaGreatDoor

/- -/
namespace Go.Proofs.YtdnkignhenkamaaGreatDoor
def tests : List RB := [
  ⟨false, eat [.one [1]], eat [.one [2]]⟩,
  ⟨true, eat [.one [1, 2, 3]], eat []⟩,
  ⟨false, eat [], eat [.one [13]]⟩,
  ⟨false, eat [.many [13], .one [9]], eat [.one [8]]⟩,
  ⟨false, eat [.many [13], .one [9], .many [13], .one [6, 5]], eat [.one [6]]⟩,
  ⟨false, eat [.many [4, 13], .many [11, 13], .one [9]], eat [.many [0, 4, 8, 11, 12, 13], .one [5]]⟩,
  ⟨false, eat [.many [4, 13], .many [11, 13], .one [9, 10]], eat [.one [12, 9, 10]]⟩,
  ⟨false, eat [.many [11, 13], .one [9, 10]], eat [.one [11, 4, 3, 1, 2]]⟩,
  ⟨false, eat [.many [4, 13], .many [11, 13], .one [9, 10]], eat [.one [4, 3, 1, 2]]⟩,
  ⟨true, eat [.many [4, 13], .many [11, 13], .one [9, 10]], eat []⟩]
end Go.Proofs.YtdnkignhenkamaaGreatDoor

