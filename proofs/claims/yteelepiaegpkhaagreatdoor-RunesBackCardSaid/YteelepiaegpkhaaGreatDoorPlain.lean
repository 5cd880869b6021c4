/-
  PLAIN LAW: lists of ranges, their normal form, what is in them. No program in sight.
-/
import Derived.Test.YteelepiaegpkhaaGreatDoorMem
namespace Go.Proofs.YteelepiaegpkhaaGreatDoor

/-- Is a rune in one of the ranges? -/
def memR (l : List (Int × Int)) (r : Int) : Prop := ∃ x ∈ l, x.1 ≤ r ∧ r ≤ x.2
/-- Rising, apart, none empty. -/
def Nf : List (Int × Int) → Prop
  | [] => True
  | x :: r => x.1 ≤ x.2 ∧ (∀ y ∈ r, x.2 + 1 < y.1) ∧ Nf r
def NF (l : List (Int × Int)) : Prop := Nf l ∧ ∀ x ∈ l, 0 ≤ x.1 ∧ x.2 ≤ 1114111

theorem memR_nil (r : Int) : ¬ memR [] r := fun ⟨_, h, _⟩ => by simp at h
theorem memR_cons (x : Int × Int) (l : List (Int × Int)) (r : Int) : memR (x :: l) r ↔ (x.1 ≤ r ∧ r ≤ x.2) ∨ memR l r := by
  constructor
  · rintro ⟨y, hy, h⟩
    rcases List.mem_cons.1 hy with rfl | hy
    · exact .inl h
    · exact .inr ⟨y, hy, h⟩
  · rintro (h | ⟨y, hy, h⟩)
    · exact ⟨x, by simp, h⟩
    · exact ⟨y, by simp [hy], h⟩
theorem memR_append (a b : List (Int × Int)) (r : Int) : memR (a ++ b) r ↔ memR a r ∨ memR b r := by
  induction a with
  | nil => simp [memR_nil]
  | cons x a ih => rw [List.cons_append, memR_cons, memR_cons, ih, or_assoc]
theorem memR_perm {a b : List (Int × Int)} (h : a.Perm b) (r : Int) : memR a r ↔ memR b r :=
  ⟨fun ⟨x, hx, k⟩ => ⟨x, h.mem_iff.1 hx, k⟩, fun ⟨x, hx, k⟩ => ⟨x, h.mem_iff.2 hx, k⟩⟩

theorem Nf_append (a b : List (Int × Int)) : Nf (a ++ b) ↔ Nf a ∧ Nf b ∧ ∀ x ∈ a, ∀ y ∈ b, x.2 + 1 < y.1 := by
  induction a with
  | nil => simp [Nf]
  | cons x a ih =>
    simp only [List.cons_append, Nf, ih, List.mem_append, List.mem_cons]
    constructor
    · rintro ⟨h1, h2, h3, h4, h5⟩
      refine ⟨⟨h1, fun y hy => h2 y (.inl hy), h3⟩, h4, ?_⟩
      rintro z (rfl | hz) y hy
      · exact h2 y (.inr hy)
      · exact h5 z hz y hy
    · rintro ⟨⟨h1, h2, h3⟩, h4, h5⟩
      refine ⟨h1, ?_, h3, h4, fun z hz y hy => h5 z (.inr hz) y hy⟩
      rintro y (hy | hy)
      · exact h2 y hy
      · exact h5 x (.inl rfl) y hy
theorem Nf_le {l : List (Int × Int)} (h : Nf l) : ∀ x ∈ l, x.1 ≤ x.2 := by
  induction l with
  | nil => intro x hx; simp at hx
  | cons y l ih =>
    intro x hx
    rcases List.mem_cons.1 hx with rfl | hx
    · exact h.1
    · exact ih h.2.2 x hx

/-- A normal form is given by what is in it. -/
theorem Nf_ext : ∀ {a b : List (Int × Int)} (_ : Nf a) (_ : Nf b) (_ : ∀ r, memR a r ↔ memR b r), a = b
  | [], [], _, _, _ => rfl
  | [], y :: rb, _, hb, h => absurd ((h y.1).2 ⟨y, by simp, by omega, hb.1⟩) (memR_nil _)
  | x :: ra, [], ha, _, h => absurd ((h x.1).1 ⟨x, by simp, by omega, ha.1⟩) (memR_nil _)
  | x :: ra, y :: rb, ha, hb, h => by
    have e1 : y.1 ≤ x.1 := by
      obtain ⟨z, hz, h1, h2⟩ := (h x.1).1 ⟨x, by simp, by omega, ha.1⟩
      rcases List.mem_cons.1 hz with rfl | hz
      · exact h1
      · have := hb.2.1 z hz; have := hb.1; omega
    have e2 : x.1 ≤ y.1 := by
      obtain ⟨z, hz, h1, h2⟩ := (h y.1).2 ⟨y, by simp, by omega, hb.1⟩
      rcases List.mem_cons.1 hz with rfl | hz
      · exact h1
      · have := ha.2.1 z hz; have := ha.1; omega
    have e3 : y.2 ≤ x.2 := by
      rcases Int.lt_or_le x.2 y.2 with hlt | hle
      · obtain ⟨z, hz, h1, h2⟩ := (h (x.2 + 1)).2 ⟨y, by simp, by have := ha.1; omega, by omega⟩
        rcases List.mem_cons.1 hz with rfl | hz
        · omega
        · have := ha.2.1 z hz; omega
      · exact hle
    have e4 : x.2 ≤ y.2 := by
      rcases Int.lt_or_le y.2 x.2 with hlt | hle
      · obtain ⟨z, hz, h1, h2⟩ := (h (y.2 + 1)).1 ⟨x, by simp, by have := hb.1; omega, by omega⟩
        rcases List.mem_cons.1 hz with rfl | hz
        · omega
        · have := hb.2.1 z hz; omega
      · exact hle
    have hxy : x = y := Prod.ext (by omega) (by omega)
    subst hxy
    have : ra = rb := Nf_ext ha.2.2 hb.2.2 (fun r => by
      have hr := h r
      rw [memR_cons, memR_cons] at hr
      constructor
      · intro hm
        rcases hr.1 (.inr hm) with hx | hx
        · obtain ⟨z, hz, h1, _⟩ := hm
          have := ha.2.1 z hz; omega
        · exact hx
      · intro hm
        rcases hr.2 (.inr hm) with hx | hx
        · obtain ⟨z, hz, h1, _⟩ := hm
          have := hb.2.1 z hz; omega
        · exact hx)
    rw [this]

/-- One range more behind those that are merged. -/
def mstep (out : List (Int × Int)) (x : Int × Int) : List (Int × Int) :=
  match out.getLast? with
  | some y => if x.1 ≤ y.2 + 1 then out.dropLast ++ [(y.1, max y.2 x.2)] else out ++ [x]
  | none => [x]
theorem mstep_nil (x : Int × Int) : mstep [] x = [x] := rfl
theorem mstep_snoc (o : List (Int × Int)) (y x : Int × Int) : mstep (o ++ [y]) x = if x.1 ≤ y.2 + 1 then o ++ [(y.1, max y.2 x.2)] else o ++ [y] ++ [x] := by
  simp [mstep]
def mergeR (s : List (Int × Int)) : List (Int × Int) := s.foldl mstep []
def Rise (s : List (Int × Int)) : Prop := s.Pairwise fun a b => a.1 ≤ b.1

theorem snoc_cases {α : Type} (l : List α) : l = [] ∨ ∃ o y, l = o ++ [y] := by
  rcases List.eq_nil_or_concat l with h | ⟨o, y, h⟩
  · exact .inl h
  · exact .inr ⟨o, y, by simpa using h⟩

theorem merge_go : ∀ (s out : List (Int × Int)) (_ : Nf out) (_ : Rise s) (_ : ∀ x ∈ s, x.1 ≤ x.2) (_ : ∀ x ∈ s, ∀ y ∈ out, y.1 ≤ x.1),
    Nf (s.foldl mstep out) ∧ ∀ r, memR (s.foldl mstep out) r ↔ memR out r ∨ memR s r
  | [], out, ho, _, _, _ => ⟨ho, fun r => by simp [memR_nil]⟩
  | x :: s, out, ho, hs, hle, hlt => by
    have hs' : Rise s := (List.pairwise_cons.1 hs).2
    have hx := (List.pairwise_cons.1 hs).1
    have hxle := hle x (by simp)
    have hle' : ∀ z ∈ s, z.1 ≤ z.2 := fun z hz => hle z (by simp [hz])
    have key : Nf (mstep out x) ∧ (∀ r, memR (mstep out x) r ↔ memR out r ∨ (x.1 ≤ r ∧ r ≤ x.2)) ∧ (∀ z ∈ s, ∀ y ∈ mstep out x, y.1 ≤ z.1) := by
      rcases snoc_cases out with rfl | ⟨o, y, rfl⟩
      · refine ⟨⟨hxle, by simp, trivial⟩, fun r => ?_, fun z hz y hy => ?_⟩
        · rw [mstep_nil, memR_cons]; simp [memR_nil]
        · rw [mstep_nil] at hy; simp at hy; subst hy; exact hx z hz
      · rw [mstep_snoc]
        rw [Nf_append] at ho
        have hy := hlt x (by simp) y (by simp)
        have hyle : y.1 ≤ y.2 := ho.2.1.1
        split
        · rename_i hc
          refine ⟨?_, fun r => ?_, fun z hz q hq => ?_⟩
          · rw [Nf_append]
            refine ⟨ho.1, ⟨by simp only; omega, by simp, trivial⟩, fun q hq p hp => ?_⟩
            simp at hp; subst hp
            exact ho.2.2 q hq y (by simp)
          · rw [memR_append, memR_append, memR_cons, memR_cons]
            simp only [memR_nil, or_false]
            constructor
            · rintro (h | h)
              · exact .inl (.inl h)
              · by_cases hr : r ≤ y.2
                · exact .inl (.inr (by omega))
                · exact .inr (by omega)
            · rintro ((h | h) | h)
              · exact .inl h
              · exact .inr (by omega)
              · exact .inr (by omega)
          · rcases List.mem_append.1 hq with hq | hq
            · exact hlt z (by simp [hz]) q (by simp [hq])
            · simp at hq; subst hq; exact hlt z (by simp [hz]) y (by simp)
        · rename_i hc
          refine ⟨?_, fun r => ?_, fun z hz q hq => ?_⟩
          · rw [Nf_append, Nf_append]
            refine ⟨ho, ⟨hxle, by simp, trivial⟩, fun q hq p hp => ?_⟩
            simp at hp; subst hp
            rcases List.mem_append.1 hq with hq | hq
            · have := ho.2.2 q hq y (by simp); omega
            · simp at hq; subst hq; omega
          · rw [memR_append, memR_cons]; simp [memR_nil]
          · rcases List.mem_append.1 hq with hq | hq
            · exact hlt z (by simp [hz]) q hq
            · simp at hq; subst hq; exact hx z hz
    obtain ⟨k1, k2, k3⟩ := key
    obtain ⟨g1, g2⟩ := merge_go s (mstep out x) k1 hs' hle' k3
    refine ⟨g1, fun r => ?_⟩
    rw [List.foldl_cons, g2, k2, memR_cons, or_assoc]

def clampR (r : Int × Int) : Int × Int := (max r.1 0, min r.2 1114111)
def keepR (l : List (Int × Int)) : List (Int × Int) := (l.map clampR).filter fun x => decide (x.1 ≤ x.2)
def normR (l : List (Int × Int)) : List (Int × Int) := mergeR ((keepR l).mergeSort fun a b => decide (a.1 ≤ b.1))
/-- Is a rune in what ranges mean? -/
def hasP (l : List (Int × Int)) (r : Int) : Prop := 0 ≤ r ∧ r ≤ 1114111 ∧ memR l r

theorem keepR_le (l : List (Int × Int)) : ∀ x ∈ keepR l, x.1 ≤ x.2 ∧ 0 ≤ x.1 ∧ x.2 ≤ 1114111 := by
  intro x hx
  obtain ⟨h1, h2⟩ := List.mem_filter.1 hx
  obtain ⟨y, _, rfl⟩ := List.mem_map.1 h1
  simp only [decide_eq_true_eq] at h2
  simp only [clampR] at h2 ⊢
  omega
theorem memR_keepR (l : List (Int × Int)) (r : Int) : memR (keepR l) r ↔ hasP l r := by
  constructor
  · rintro ⟨x, hx, h⟩
    obtain ⟨h1, h2⟩ := List.mem_filter.1 hx
    obtain ⟨y, hy, rfl⟩ := List.mem_map.1 h1
    simp only [clampR] at h
    exact ⟨by omega, by omega, y, hy, by omega⟩
  · rintro ⟨h0, h1, y, hy, h⟩
    refine ⟨clampR y, List.mem_filter.2 ⟨List.mem_map.2 ⟨y, hy, rfl⟩, ?_⟩, ?_⟩
    · refine decide_eq_true ?_; show max y.1 0 ≤ min y.2 1114111; omega
    · show max y.1 0 ≤ r ∧ r ≤ min y.2 1114111; omega
theorem merge_of {s l : List (Int × Int)} (hp : s.Perm (keepR l)) (hs : Rise s) : Nf (mergeR s) ∧ ∀ r, memR (mergeR s) r ↔ hasP l r := by
  obtain ⟨h1, h2⟩ := merge_go s [] trivial hs (fun x hx => (keepR_le l x (hp.mem_iff.1 hx)).1) (fun _ _ y hy => by simp at hy)
  refine ⟨h1, fun r => ?_⟩
  rw [← memR_keepR, ← memR_perm hp]
  rw [show mergeR s = s.foldl mstep [] from rfl, h2]
  simp [memR_nil]
theorem sort_rise (l : List (Int × Int)) : Rise (l.mergeSort fun a b => decide (a.1 ≤ b.1)) := by
  have := List.pairwise_mergeSort (le := fun a b : Int × Int => decide (a.1 ≤ b.1)) (by simp; intros; omega) (by simp; intros; omega) l
  exact this.imp (by simp)
theorem normR_nf (l : List (Int × Int)) : Nf (normR l) := (merge_of (List.mergeSort_perm _ _) (sort_rise _)).1
theorem memR_normR (l : List (Int × Int)) (r : Int) : memR (normR l) r ↔ hasP l r := (merge_of (List.mergeSort_perm _ _) (sort_rise _)).2 r
/-- Sorted in whatever way, merged: the normal form. -/
theorem mergeR_eq {s l : List (Int × Int)} (hp : s.Perm (keepR l)) (hs : Rise s) : mergeR s = normR l :=
  Nf_ext (merge_of hp hs).1 (normR_nf l) fun r => ((merge_of hp hs).2 r).trans (memR_normR l r).symm
theorem merge_bd {s l : List (Int × Int)} (hp : s.Perm (keepR l)) (hs : Rise s) (k : Nat) : ∀ y ∈ (s.take k).foldl mstep [], 0 ≤ y.1 ∧ y.1 ≤ y.2 ∧ y.2 ≤ 1114111 := by
  have hk : ∀ x ∈ s.take k, x.1 ≤ x.2 ∧ 0 ≤ x.1 ∧ x.2 ≤ 1114111 := fun x hx => keepR_le l x (hp.mem_iff.1 (List.mem_of_mem_take hx))
  obtain ⟨h1, h2⟩ := merge_go (s.take k) [] trivial (List.Pairwise.sublist (List.take_sublist _ _) hs) (fun x hx => (hk x hx).1) (fun _ _ y hy => by simp at hy)
  intro y hy
  have hle := Nf_le h1 y hy
  obtain ⟨z, hz, _, _⟩ := ((h2 y.1).1 ⟨y, hy, by omega, hle⟩).resolve_left (memR_nil _)
  obtain ⟨q, hq, _, _⟩ := ((h2 y.2).1 ⟨y, hy, hle, by omega⟩).resolve_left (memR_nil _)
  have := hk z hz; have := hk q hq; omega
theorem merge_snoc {s : List (Int × Int)} {k : Nat} {x : Int × Int} (h : s[k]? = some x) : (s.take (k + 1)).foldl mstep [] = mstep ((s.take k).foldl mstep []) x := by
  rw [List.take_add_one, h]; simp
theorem NF_of {l : List (Int × Int)} (h : Nf l) (hb : ∀ r, memR l r → 0 ≤ r ∧ r ≤ 1114111) : NF l :=
  ⟨h, fun x hx => ⟨(hb x.1 ⟨x, hx, by omega, Nf_le h x hx⟩).1, (hb x.2 ⟨x, hx, Nf_le h x hx, by omega⟩).2⟩⟩
theorem normR_NF (l : List (Int × Int)) : NF (normR l) := NF_of (normR_nf l) fun r h => by have := (memR_normR l r).1 h; exact ⟨this.1, this.2.1⟩
theorem NF_mem {l : List (Int × Int)} (h : NF l) (r : Int) : hasP l r ↔ memR l r :=
  ⟨fun k => k.2.2, fun ⟨x, hx, k⟩ => by have := h.2 x hx; exact ⟨by omega, by omega, x, hx, k⟩⟩
/-- A normal form's normal form is itself. -/
theorem normR_of_NF {l : List (Int × Int)} (h : NF l) : normR l = l := Nf_ext (normR_nf l) h.1 fun r => (memR_normR l r).trans (NF_mem h r)
theorem NF_ext {a b : List (Int × Int)} (ha : NF a) (hb : NF b) (h : ∀ r, hasP a r ↔ hasP b r) : a = b :=
  Nf_ext ha.1 hb.1 fun r => ((NF_mem ha r).symm.trans (h r)).trans (NF_mem hb r)
theorem hasP_normR (l : List (Int × Int)) (r : Int) : hasP (normR l) r ↔ hasP l r := (NF_mem (normR_NF l) r).trans (memR_normR l r)
theorem normR_congr {a b : List (Int × Int)} (h : ∀ r, hasP a r ↔ hasP b r) : normR a = normR b :=
  NF_ext (normR_NF a) (normR_NF b) fun r => by rw [hasP_normR, hasP_normR, h]

/-- What lies between the ranges, from a rune on. -/
def notGo : Int → List (Int × Int) → List (Int × Int)
  | next, [] => if next ≤ 1114111 then [(next, 1114111)] else []
  | next, x :: r => (if next < x.1 then [(next, x.1 - 1)] else []) ++ notGo (x.2 + 1) r
def notR (l : List (Int × Int)) : List (Int × Int) := notGo 0 (normR l)
theorem notGo_spec : ∀ (l : List (Int × Int)) (next : Int) (_ : NF l) (_ : 0 ≤ next) (_ : ∀ x ∈ l, next ≤ x.1),
    Nf (notGo next l) ∧ (∀ x ∈ notGo next l, next ≤ x.1) ∧ ∀ r, memR (notGo next l) r ↔ (next ≤ r ∧ r ≤ 1114111 ∧ ¬ memR l r)
  | [], next, _, h0, _ => by
    unfold notGo
    split
    · refine ⟨⟨by simp only; omega, by simp, trivial⟩, by simp, fun r => ?_⟩
      rw [memR_cons]; simp [memR_nil]
    · exact ⟨trivial, by simp, fun r => by simp [memR_nil]; omega⟩
  | x :: l, next, hn, h0, hx => by
    have hxb := hn.2 x (by simp)
    have hxl := hn.1.1
    obtain ⟨g1, g2, g3⟩ := notGo_spec l (x.2 + 1) ⟨hn.1.2.2, fun z hz => hn.2 z (by simp [hz])⟩ (by omega) (fun z hz => by have := hn.1.2.1 z hz; omega)
    have hx1 := hx x (by simp)
    unfold notGo
    refine ⟨?_, ?_, fun r => ?_⟩
    · rw [Nf_append]
      refine ⟨?_, g1, ?_⟩
      · split
        · exact ⟨by simp only; omega, by simp, trivial⟩
        · trivial
      · intro q hq p hp
        have := g2 p hp
        split at hq
        · simp at hq; subst hq; simp only; omega
        · simp at hq
    · intro q hq
      rcases List.mem_append.1 hq with hq | hq
      · split at hq
        · simp at hq; subst hq; simp
        · simp at hq
      · have := g2 q hq; omega
    · rw [memR_append, g3, memR_cons]
      have hl : ∀ q, memR l q → x.2 + 1 < q := fun q ⟨z, hz, h1, _⟩ => by have := hn.1.2.1 z hz; omega
      split
      · rw [memR_cons]
        simp only [memR_nil, or_false, not_or]
        constructor
        · rintro (h | ⟨h1, h2, h3⟩)
          · refine ⟨by omega, by omega, by omega, fun hm => ?_⟩
            have := hl r hm; omega
          · exact ⟨by omega, h2, by omega, h3⟩
        · rintro ⟨h1, h2, h3, h4⟩
          by_cases hr : r < x.1
          · exact .inl (by omega)
          · exact .inr ⟨by omega, h2, h4⟩
      · simp only [memR_nil, false_or, not_or]
        constructor
        · rintro ⟨h1, h2, h3⟩; exact ⟨by omega, h2, by omega, h3⟩
        · rintro ⟨h1, h2, h3, h4⟩; exact ⟨by omega, h2, h4⟩
theorem notR_spec (l : List (Int × Int)) : Nf (notR l) ∧ ∀ r, memR (notR l) r ↔ (0 ≤ r ∧ r ≤ 1114111 ∧ ¬ hasP l r) := by
  obtain ⟨h1, _, h3⟩ := notGo_spec (normR l) 0 (normR_NF l) (by omega) (fun x hx => ((normR_NF l).2 x hx).1)
  exact ⟨h1, fun r => by rw [← memR_normR]; exact h3 r⟩
theorem notR_NF (l : List (Int × Int)) : NF (notR l) := NF_of (notR_spec l).1 fun r h => by have := ((notR_spec l).2 r).1 h; exact ⟨this.1, this.2.1⟩
theorem hasP_notR (l : List (Int × Int)) (r : Int) : hasP (notR l) r ↔ (0 ≤ r ∧ r ≤ 1114111 ∧ ¬ hasP l r) := (NF_mem (notR_NF l) r).trans ((notR_spec l).2 r)

def orR (a b : List (Int × Int)) : List (Int × Int) := normR (a ++ b)
def andR (a b : List (Int × Int)) : List (Int × Int) := notR (orR (notR a) (notR b))
def minusR (a b : List (Int × Int)) : List (Int × Int) := andR a (notR b)
theorem hasP_orR (a b : List (Int × Int)) (r : Int) : hasP (orR a b) r ↔ hasP a r ∨ hasP b r := by
  rw [orR, hasP_normR]; unfold hasP; rw [memR_append]
  constructor
  · rintro ⟨h0, h1, h | h⟩
    · exact .inl ⟨h0, h1, h⟩
    · exact .inr ⟨h0, h1, h⟩
  · rintro (⟨h0, h1, h⟩ | ⟨h0, h1, h⟩)
    · exact ⟨h0, h1, .inl h⟩
    · exact ⟨h0, h1, .inr h⟩
theorem hasP_range {l : List (Int × Int)} {r : Int} (h : hasP l r) : 0 ≤ r ∧ r ≤ 1114111 := ⟨h.1, h.2.1⟩
theorem hasP_andR (a b : List (Int × Int)) (r : Int) : hasP (andR a b) r ↔ hasP a r ∧ hasP b r := by
  rw [andR, hasP_notR, hasP_orR, hasP_notR, hasP_notR]
  constructor
  · rintro ⟨h0, h1, h⟩
    refine ⟨Classical.byContradiction fun k => h (.inl ⟨h0, h1, k⟩), Classical.byContradiction fun k => h (.inr ⟨h0, h1, k⟩)⟩
  · rintro ⟨ha, hb⟩
    refine ⟨ha.1, ha.2.1, ?_⟩
    rintro (⟨_, _, h⟩ | ⟨_, _, h⟩)
    · exact h ha
    · exact h hb
theorem hasP_minusR (a b : List (Int × Int)) (r : Int) : hasP (minusR a b) r ↔ hasP a r ∧ ¬ hasP b r := by
  rw [minusR, hasP_andR, hasP_notR]
  exact ⟨fun ⟨h, _, _, k⟩ => ⟨h, k⟩, fun ⟨h, k⟩ => ⟨h, h.1, h.2.1, k⟩⟩
theorem orR_NF (a b : List (Int × Int)) : NF (orR a b) := normR_NF _
theorem andR_NF (a b : List (Int × Int)) : NF (andR a b) := notR_NF _
theorem minusR_NF (a b : List (Int × Int)) : NF (minusR a b) := notR_NF _
theorem NF_len : ∀ {l : List (Int × Int)} {b : Int} (_ : Nf l) (_ : ∀ x ∈ l, b ≤ x.1 ∧ x.2 ≤ 1114111) (_ : b ≤ 1114113), b + 2 * (l.length : Int) ≤ 1114113
  | [], b, _, _, h => by simp; omega
  | x :: l, b, hn, hb, _ => by
    have hx := hb x (by simp)
    have := hn.1
    have ih := NF_len (l := l) (b := x.2 + 2) hn.2.2 (fun z hz => ⟨by have := hn.2.1 z hz; omega, (hb z (by simp [hz])).2⟩) (by omega)
    simp only [List.length_cons]; omega
theorem NF.len {l : List (Int × Int)} (h : NF l) : l.length ≤ 557056 := by have := NF_len (b := 0) h.1 h.2 (by omega); omega

/-- Is a rune in what ranges mean? As a Bool. -/
def hasB (l : List (Int × Int)) (r : Int) : Bool := decide (0 ≤ r) && decide (r ≤ 1114111) && l.any fun x => decide (x.1 ≤ r) && decide (r ≤ x.2)
theorem hasB_iff (l : List (Int × Int)) (r : Int) : hasB l r = true ↔ hasP l r := by
  simp only [hasB, hasP, memR, Bool.and_eq_true, decide_eq_true_eq, List.any_eq_true]
  constructor
  · rintro ⟨⟨h0, h1⟩, x, hx, h⟩; exact ⟨h0, h1, x, hx, h⟩
  · rintro ⟨h0, h1, x, hx, h⟩; exact ⟨⟨h0, h1⟩, x, hx, h⟩
theorem hasB_true {l : List (Int × Int)} {r : Int} (h : hasP l r) : hasB l r = true := (hasB_iff l r).2 h
theorem hasB_false {l : List (Int × Int)} {r : Int} (h : ¬ hasP l r) : hasB l r = false := by
  cases hb : hasB l r
  · rfl
  · exact absurd ((hasB_iff l r).1 hb) h
theorem notGo_cons (next : Int) (x : Int × Int) (r : List (Int × Int)) : notGo next (x :: r) = (if next < x.1 then [(next, x.1 - 1)] else []) ++ notGo (x.2 + 1) r := rfl
theorem notGo_nil (next : Int) : notGo next [] = if next ≤ 1114111 then [(next, 1114111)] else [] := rfl
theorem drop_cons_of {α : Type} {l : List α} {k : Nat} {x : α} (h : l[k]? = some x) : l.drop k = x :: l.drop (k + 1) := by
  obtain ⟨hk, rfl⟩ := List.getElem?_eq_some_iff.1 h
  exact List.drop_eq_getElem_cons hk
/-- How many runes, summed up. -/
def cntR : List (Int × Int) → Int
  | [] => 0
  | x :: r => (x.2 - x.1 + 1) + cntR r
def countR (l : List (Int × Int)) : Int := cntR (normR l)
theorem cntR_append (a b : List (Int × Int)) : cntR (a ++ b) = cntR a + cntR b := by
  induction a with
  | nil => simp [cntR]
  | cons x a ih => simp only [List.cons_append, cntR, ih]; omega
theorem cntR_take {l : List (Int × Int)} {k : Nat} {x : Int × Int} (h : l[k]? = some x) : cntR (l.take (k + 1)) = cntR (l.take k) + (x.2 - x.1) + 1 := by
  rw [List.take_add_one, h, cntR_append]; simp only [Option.toList_some, cntR]; omega
theorem cntR_bd : ∀ {l : List (Int × Int)} {b : Int} (_ : Nf l) (_ : ∀ x ∈ l, b ≤ x.1 ∧ x.2 ≤ 1114111) (_ : b ≤ 1114112), 0 ≤ cntR l ∧ b + cntR l ≤ 1114112
  | [], b, _, _, h => by simp [cntR]; omega
  | x :: l, b, hn, hb, _ => by
    have hx := hb x (by simp)
    have := hn.1
    have ih := cntR_bd (l := l) (b := x.2 + 1) hn.2.2 (fun z hz => ⟨by have := hn.2.1 z hz; omega, (hb z (by simp [hz])).2⟩) (by omega)
    simp only [cntR]; omega
theorem NF.cnt {l : List (Int × Int)} (h : NF l) : 0 ≤ cntR l ∧ cntR l ≤ 1114112 := by have := cntR_bd (b := 0) h.1 h.2 (by omega); omega
theorem Nf_take {l : List (Int × Int)} (h : Nf l) (k : Nat) : Nf (l.take k) := by
  have := (Nf_append (l.take k) (l.drop k)).1 (by rw [List.take_append_drop]; exact h)
  exact this.1
theorem NF.take {l : List (Int × Int)} (h : NF l) (k : Nat) : NF (l.take k) := ⟨Nf_take h.1 k, fun x hx => h.2 x (List.mem_of_mem_take hx)⟩
/-- The rune of a number. -/
def atGo : List (Int × Int) → Int → Int × Bool
  | [], _ => (0, false)
  | x :: r, i => if i < x.2 - x.1 + 1 then (x.1 + i, true) else atGo r (i - (x.2 - x.1 + 1))
def atR (l : List (Int × Int)) (i : Int) : Int × Bool := if i < 0 then (0, false) else atGo (normR l) i
theorem atGo_cons (x : Int × Int) (r : List (Int × Int)) (i : Int) : atGo (x :: r) i = if i < x.2 - x.1 + 1 then (x.1 + i, true) else atGo r (i - (x.2 - x.1 + 1)) := rfl
/-- The number of a rune. -/
def ixGo (r : Int) : List (Int × Int) → Int → Int × Bool
  | [], _ => (0, false)
  | x :: t, c => if x.1 ≤ r ∧ r ≤ x.2 then (c + (r - x.1), true) else ixGo r t (c + (x.2 - x.1) + 1)
def ixR (l : List (Int × Int)) (r : Int) : Int × Bool := ixGo r (normR l) 0
theorem ixGo_cons (r : Int) (x : Int × Int) (t : List (Int × Int)) (c : Int) : ixGo r (x :: t) c = if x.1 ≤ r ∧ r ≤ x.2 then (c + (r - x.1), true) else ixGo r t (c + (x.2 - x.1) + 1) := rfl
end Go.Proofs.YteelepiaegpkhaaGreatDoor
