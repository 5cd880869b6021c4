/-
  PLAIN: the laws of sets in normal form: a Boolean algebra, list for list; how many; numbers there and back. No walk.
-/
import Derived.Test.YteelepiaegpkhaaDoorPlain
namespace Go.Proofs.YteelepiaegpkhaaDoor

theorem hasB_congr {a b : List (Int × Int)} (h : ∀ r, hasP a r ↔ hasP b r) (r : Int) : hasB a r = hasB b r := by
  rw [Bool.eq_iff_iff, hasB_iff, hasB_iff]; exact h r
theorem range_dec (r : Int) (l : List (Int × Int)) : hasP l r ∨ ¬ hasP l r := Classical.em _
theorem not_not_R (a : List (Int × Int)) : notR (notR a) = normR a := by
  refine NF_ext (notR_NF _) (normR_NF _) fun r => ?_
  rw [hasP_notR, hasP_notR, hasP_normR]
  constructor
  · rintro ⟨h0, h1, h⟩; exact Classical.byContradiction fun k => h ⟨h0, h1, k⟩
  · intro h; exact ⟨h.1, h.2.1, fun k => k.2.2 h⟩
theorem or_self_R (a : List (Int × Int)) : orR a a = normR a := by
  refine NF_ext (orR_NF _ _) (normR_NF _) fun r => ?_
  rw [hasP_orR, hasP_normR]; exact or_self_iff
theorem and_self_R (a : List (Int × Int)) : andR a a = normR a := by
  refine NF_ext (andR_NF _ _) (normR_NF _) fun r => ?_
  rw [hasP_andR, hasP_normR]; exact and_self_iff
theorem NF_nil : NF [] := ⟨trivial, by simp⟩
theorem and_not_R (a : List (Int × Int)) : andR a (notR a) = [] := by
  refine NF_ext (andR_NF _ _) NF_nil fun r => ?_
  rw [hasP_andR, hasP_notR]
  constructor
  · rintro ⟨h, _, _, k⟩; exact absurd h k
  · rintro ⟨_, _, h⟩; exact absurd h (memR_nil r)
theorem hasP_nil (r : Int) : ¬ hasP [] r := fun h => memR_nil r h.2.2
theorem or_not_R (a : List (Int × Int)) : orR a (notR a) = notR [] := by
  refine NF_ext (orR_NF _ _) (notR_NF _) fun r => ?_
  rw [hasP_orR, hasP_notR, hasP_notR]
  constructor
  · rintro (h | ⟨h0, h1, _⟩)
    · exact ⟨h.1, h.2.1, hasP_nil r⟩
    · exact ⟨h0, h1, hasP_nil r⟩
  · rintro ⟨h0, h1, _⟩
    rcases Classical.em (hasP a r) with h | h
    · exact .inl h
    · exact .inr ⟨h0, h1, h⟩
theorem and_all_R (a : List (Int × Int)) : andR a (notR []) = normR a := by
  refine NF_ext (andR_NF _ _) (normR_NF _) fun r => ?_
  rw [hasP_andR, hasP_notR, hasP_normR]
  exact ⟨fun h => h.1, fun h => ⟨h, h.1, h.2.1, hasP_nil r⟩⟩
theorem or_comm_R (a b : List (Int × Int)) : orR a b = orR b a := by
  refine NF_ext (orR_NF _ _) (orR_NF _ _) fun r => ?_
  rw [hasP_orR, hasP_orR]; exact or_comm
theorem and_comm_R (a b : List (Int × Int)) : andR a b = andR b a := by
  refine NF_ext (andR_NF _ _) (andR_NF _ _) fun r => ?_
  rw [hasP_andR, hasP_andR]; exact and_comm
theorem not_or_R (a b : List (Int × Int)) : notR (orR a b) = andR (notR a) (notR b) := by
  refine NF_ext (notR_NF _) (andR_NF _ _) fun r => ?_
  rw [hasP_notR, hasP_andR, hasP_notR, hasP_notR, hasP_orR]
  constructor
  · rintro ⟨h0, h1, h⟩; exact ⟨⟨h0, h1, fun k => h (.inl k)⟩, h0, h1, fun k => h (.inr k)⟩
  · rintro ⟨⟨h0, h1, h⟩, _, _, k⟩; exact ⟨h0, h1, fun q => q.elim h k⟩
theorem or_and_R (a b : List (Int × Int)) : orR a (andR a b) = normR a := by
  refine NF_ext (orR_NF _ _) (normR_NF _) fun r => ?_
  rw [hasP_orR, hasP_andR, hasP_normR]
  exact ⟨fun h => h.elim id And.left, .inl⟩
theorem and_or_R (a b c : List (Int × Int)) : andR a (orR b c) = orR (andR a b) (andR a c) := by
  refine NF_ext (andR_NF _ _) (orR_NF _ _) fun r => ?_
  rw [hasP_andR, hasP_orR, hasP_orR, hasP_andR, hasP_andR]; exact and_or_left
theorem or_assoc_R (a b c : List (Int × Int)) : orR a (orR b c) = orR (orR a b) c := by
  refine NF_ext (orR_NF _ _) (orR_NF _ _) fun r => ?_
  rw [hasP_orR, hasP_orR, hasP_orR, hasP_orR]; exact or_assoc.symm
theorem normR_idem (a : List (Int × Int)) : normR (normR a) = normR a := normR_of_NF (normR_NF a)
theorem hasB_orR (a b : List (Int × Int)) (r : Int) : hasB (orR a b) r = (hasB a r || hasB b r) := by
  rw [Bool.eq_iff_iff, Bool.or_eq_true, hasB_iff, hasB_iff, hasB_iff, hasP_orR]
theorem hasB_andR (a b : List (Int × Int)) (r : Int) : hasB (andR a b) r = (hasB a r && hasB b r) := by
  rw [Bool.eq_iff_iff, Bool.and_eq_true, hasB_iff, hasB_iff, hasB_iff, hasP_andR]
theorem hasB_minusR (a b : List (Int × Int)) (r : Int) : hasB (minusR a b) r = (hasB a r && !hasB b r) := by
  rw [Bool.eq_iff_iff, Bool.and_eq_true, Bool.not_eq_true', ← Bool.not_eq_true, hasB_iff, hasB_iff, hasB_iff, hasP_minusR]
theorem hasB_notR' (a : List (Int × Int)) (r : Int) : hasB (notR a) r = ((decide (0 ≤ r) && decide (r ≤ 1114111)) && !hasB a r) := by
  rw [Bool.eq_iff_iff, Bool.and_eq_true, Bool.and_eq_true, Bool.not_eq_true', ← Bool.not_eq_true, hasB_iff, hasB_iff, hasP_notR, decide_eq_true_eq, decide_eq_true_eq]
  exact and_assoc.symm
theorem hasB_normR2 (a : List (Int × Int)) (r : Int) : hasB (normR a) r = hasB a r := hasB_congr (hasP_normR a) r

/- How many. -/
def sumTo (f : Nat → Int) : Nat → Int
  | 0 => 0
  | n + 1 => sumTo f n + f n
theorem sumTo_congr {f g : Nat → Int} : ∀ n, (∀ i, i < n → f i = g i) → sumTo f n = sumTo g n
  | 0, _ => rfl
  | n + 1, h => by rw [sumTo, sumTo, sumTo_congr n (fun i hi => h i (by omega)), h n (by omega)]
theorem sumTo_add (f g : Nat → Int) : ∀ n, sumTo (fun i => f i + g i) n = sumTo f n + sumTo g n
  | 0 => rfl
  | n + 1 => by rw [sumTo, sumTo, sumTo, sumTo_add f g n]; omega
theorem sumTo_span (lo hi : Int) (h0 : 0 ≤ lo) (h1 : lo ≤ hi) : ∀ n : Nat, sumTo (fun i => if lo ≤ (i : Int) ∧ (i : Int) ≤ hi then 1 else 0) n = max 0 (min hi ((n : Int) - 1) - lo + 1)
  | 0 => by simp [sumTo]; omega
  | n + 1 => by
    rw [sumTo, sumTo_span lo hi h0 h1 n]
    split <;> omega
theorem sumTo_zero : ∀ n, sumTo (fun _ => 0) n = 0
  | 0 => rfl
  | n + 1 => by rw [sumTo, sumTo_zero n]; rfl
def ind (l : List (Int × Int)) (i : Nat) : Int := if memB l i then 1 else 0
where memB (l : List (Int × Int)) (i : Nat) : Bool := l.any fun x => decide (x.1 ≤ (i : Int)) && decide ((i : Int) ≤ x.2)
theorem memB_iff (l : List (Int × Int)) (i : Nat) : ind.memB l i = true ↔ memR l (i : Int) := by
  simp [ind.memB, memR, List.any_eq_true]
theorem cnt_sum : ∀ {l : List (Int × Int)} (_ : Nf l) (_ : ∀ x ∈ l, 0 ≤ x.1 ∧ x.2 ≤ 1114111), cntR l = sumTo (ind l) 1114112
  | [], _, _ => by
    rw [sumTo_congr (g := fun _ => 0) _ (fun i _ => by simp [ind, ind.memB]), sumTo_zero]; rfl
  | x :: l, hn, hb => by
    have hx := hb x (by simp)
    have ih := cnt_sum (l := l) hn.2.2 (fun z hz => hb z (by simp [hz]))
    rw [cntR, ih]
    have e : ∀ i, i < 1114112 → ind (x :: l) i = (if x.1 ≤ (i : Int) ∧ (i : Int) ≤ x.2 then 1 else 0) + ind l i := by
      intro i _
      have hi := memB_iff l i
      by_cases hx' : x.1 ≤ (i : Int) ∧ (i : Int) ≤ x.2
      · have hno : ¬ memR l (i : Int) := fun ⟨z, hz, h1, _⟩ => by have := hn.2.1 z hz; omega
        have hf : ind.memB l i = false := by
          cases hh : ind.memB l i with
          | false => rfl
          | true => exact absurd (hi.1 hh) hno
        have ht : ind.memB (x :: l) i = true := by simp [ind.memB, hx'.1, hx'.2]
        unfold ind; rw [ht, hf, if_pos rfl, if_pos hx', if_neg Bool.false_ne_true]; rfl
      · have ht : ind.memB (x :: l) i = ind.memB l i := by
          have : (decide (x.1 ≤ (i : Int)) && decide ((i : Int) ≤ x.2)) = false := by
            cases hq : (decide (x.1 ≤ (i : Int)) && decide ((i : Int) ≤ x.2)) with
            | false => rfl
            | true => simp at hq; exact absurd hq hx'
          simp only [ind.memB, List.any_cons, this, Bool.false_or]
        unfold ind; rw [ht, if_neg hx']; omega
    rw [sumTo_congr _ e, sumTo_add, sumTo_span x.1 x.2 hx.1 hn.1]
    have h1 := hn.1
    have e2 : min x.2 (((1114112 : Nat) : Int) - 1) = x.2 := Int.min_eq_left (by have : ((1114112 : Nat) : Int) = 1114112 := rfl; omega)
    rw [e2]
    omega
theorem count_or_and (a b : List (Int × Int)) : countR (orR a b) + countR (andR a b) = countR a + countR b := by
  have hor : normR (orR a b) = orR a b := normR_of_NF (orR_NF a b)
  have hand : normR (andR a b) = andR a b := normR_of_NF (andR_NF a b)
  unfold countR
  rw [hor, hand, cnt_sum (orR_NF a b).1 (orR_NF a b).2, cnt_sum (andR_NF a b).1 (andR_NF a b).2, cnt_sum (normR_NF a).1 (normR_NF a).2, cnt_sum (normR_NF b).1 (normR_NF b).2, ← sumTo_add, ← sumTo_add]
  refine sumTo_congr _ fun i hi => ?_
  have key : ∀ l, NF l → ind l i = if hasB l i then 1 else 0 := fun l hl => by
    have : ind.memB l i = hasB l i := by
      rw [Bool.eq_iff_iff, memB_iff, hasB_iff, NF_mem hl]
    unfold ind; rw [this]
  rw [key _ (orR_NF a b), key _ (andR_NF a b), key _ (normR_NF a), key _ (normR_NF b), hasB_orR, hasB_andR, hasB_normR2, hasB_normR2]
  cases hasB a i <;> cases hasB b i <;> rfl

/- Numbers there and back. -/
theorem atGo_mem : ∀ {l : List (Int × Int)} {i x : Int} (_ : 0 ≤ i) (_ : atGo l i = (x, true)), memR l x
  | [], i, x, _, h => by simp [atGo] at h
  | y :: t, i, x, h0, h => by
    rw [atGo_cons] at h
    split at h
    · injection h with h _; exact ⟨y, by simp, by omega⟩
    · obtain ⟨z, hz, h1⟩ := atGo_mem (l := t) (i := i - (y.2 - y.1 + 1)) (by omega) h
      exact ⟨z, by simp [hz], h1⟩
theorem at_ix : ∀ {l : List (Int × Int)} (_ : Nf l) {i x : Int} (_ : 0 ≤ i) (_ : atGo l i = (x, true)) (c : Int), ixGo x l c = (c + i, true)
  | [], _, i, x, _, h, _ => by simp [atGo] at h
  | y :: t, hn, i, x, h0, h, c => by
    rw [atGo_cons] at h
    split at h
    · rename_i hlt
      injection h with h _
      rw [ixGo_cons, if_pos (by omega)]
      congr 1; omega
    · rename_i hge
      obtain ⟨z, hz, h1⟩ := atGo_mem (l := t) (i := i - (y.2 - y.1 + 1)) (by omega) h
      have hyz := hn.2.1 z hz
      have ih := at_ix (l := t) hn.2.2 (i := i - (y.2 - y.1 + 1)) (by omega) h (c + (y.2 - y.1) + 1)
      rw [ixGo_cons, if_neg (by omega), ih]
      congr 1; omega
theorem ix_at : ∀ {l : List (Int × Int)} (_ : Nf l) {r n c : Int} (_ : ixGo r l c = (n, true)), c ≤ n ∧ n < c + cntR l ∧ atGo l (n - c) = (r, true)
  | [], _, r, n, c, h => by simp [ixGo] at h
  | y :: t, hn, r, n, c, h => by
    have hy := hn.1
    have hc : 0 ≤ cntR t := by
      have : ∀ {l : List (Int × Int)}, Nf l → 0 ≤ cntR l := fun {l} => by
        induction l with
        | nil => intro _; simp [cntR]
        | cons z l ih => intro h; have := ih h.2.2; have := h.1; simp only [cntR]; omega
      exact this hn.2.2
    rw [ixGo_cons] at h
    split at h
    · rename_i hin
      injection h with h _
      refine ⟨by omega, by simp only [cntR]; omega, ?_⟩
      rw [atGo_cons, if_pos (by omega)]
      congr 1; omega
    · obtain ⟨h1, h2, h3⟩ := ix_at (l := t) hn.2.2 h
      refine ⟨by omega, by simp only [cntR]; omega, ?_⟩
      rw [atGo_cons, if_neg (by omega)]
      rw [← h3]; congr 1; omega
theorem atR_ixR {l : List (Int × Int)} {i x : Int} (h : atR l i = (x, true)) : ixR l x = (i, true) := by
  unfold atR at h
  split at h
  · simp at h
  · have := at_ix (normR_nf l) (by omega) h 0
    unfold ixR; rw [this]; congr 1; omega
theorem ixR_atR {l : List (Int × Int)} {r n : Int} (h : ixR l r = (n, true)) : atR l n = (r, true) ∧ 0 ≤ n ∧ n ≤ 1114112 := by
  obtain ⟨h1, h2, h3⟩ := ix_at (normR_nf l) h
  have := (normR_NF l).cnt
  refine ⟨?_, h1, by omega⟩
  unfold atR; rw [if_neg (by omega)]
  rw [← h3]; congr 1; omega
end Go.Proofs.YteelepiaegpkhaaDoor
