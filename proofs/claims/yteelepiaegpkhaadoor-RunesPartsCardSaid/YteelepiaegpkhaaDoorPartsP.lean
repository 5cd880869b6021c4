/-
  PLAIN: a set and its other side part a text: bytes are all there; runs take turns; what is kept of a valid text. No walk.
-/
import Derived.Test.YteelepiaegpkhaaDoorOfA
import Derived.Test.YteelepiaegpkhaaDoorRunV
import Derived.Lib.DecodeN
import Derived.Lib.RuneCountTail
namespace Go.Proofs.YteelepiaegpkhaaDoor

/-- Runes that lie one behind the other, from p to z. -/
def Contig : Nat → List (Nat × Nat × Nat) → Nat → Prop
  | p, [], z => p = z
  | p, x :: r, z => x.2.1 = p ∧ p < x.2.2 ∧ Contig x.2.2 r z
theorem runesGo_contig {s : ByteArray} : ∀ (f a : Nat), s.size ≤ a + f → a ≤ s.size → Contig a (runesGo s f a) s.size
  | 0, a, h, h2 => by simp only [runesGo, Contig]; omega
  | f + 1, a, h, h2 => by
    rw [runesGo]
    split
    · rename_i hlt
      have hd := dec_bd s a hlt
      exact ⟨rfl, by simp only; omega, runesGo_contig f _ (by simp only; omega) (by simp only; omega)⟩
    · show a = s.size; omega
theorem runesP_contig (s : ByteArray) : Contig 0 (runesP s) s.size := runesGo_contig _ _ (by omega) (by omega)
theorem runesGo_dec {s : ByteArray} : ∀ (f a : Nat), ∀ x ∈ runesGo s f a, Utf8.decode s x.2.1 = (x.1, x.2.2 - x.2.1)
  | 0, a, x, h => by simp [runesGo] at h
  | f + 1, a, x, h => by
    rw [runesGo] at h
    split at h
    · rcases List.mem_cons.1 h with rfl | h
      · simp only; rw [Nat.add_sub_cancel_left]
      · exact runesGo_dec f _ x h
    · simp at h

/- Lengths. -/
theorem extract_len (s : ByteArray) {a b : Nat} (h : b ≤ s.size) : (s.extract a b).data.toList.length = b - a := by
  rw [size_data, ByteArray.size_extract]; omega
theorem keep_two (h : Nat → Bool) (s : ByteArray) : ∀ (r : List (Nat × Nat × Nat)) (p : Nat), Contig p r s.size → (∀ x ∈ r, x.2.2 ≤ s.size) →
    ((r.filter fun x => h x.1).flatMap fun x => (s.extract x.2.1 x.2.2).data.toList).length + ((r.filter fun x => !h x.1).flatMap fun x => (s.extract x.2.1 x.2.2).data.toList).length = s.size - p
  | [], p, hc, _ => by have : p = s.size := hc; simp; omega
  | x :: r, p, ⟨h1, h2, h3⟩, hb => by
    have ih := keep_two h s r x.2.2 h3 (fun y hy => hb y (by simp [hy]))
    have hx := hb x (by simp)
    have hl := extract_len s (a := x.2.1) hx
    cases hh : h x.1 with
    | true =>
      rw [List.filter_cons_of_pos (by simpa using hh), List.filter_cons_of_neg (by simp [hh]), List.flatMap_cons, List.length_append, hl]
      omega
    | false =>
      rw [List.filter_cons_of_neg (by simp [hh]), List.filter_cons_of_pos (by simp [hh]), List.flatMap_cons, List.length_append, hl]
      omega
theorem keepP_two (s : ByteArray) (l : List (Int × Int)) : (keepP s l).length + (keepP s (notR l)).length = s.size := by
  unfold keepP
  rw [filter_notR]
  have := keep_two (fun r => hasB l r) s (runesP s) 0 (runesP_contig s) (fun x hx => (runesP_bd x hx).2.1)
  rw [Nat.sub_zero] at this
  exact this
theorem keepP_le (s : ByteArray) (l : List (Int × Int)) : (keepP s l).length ≤ s.size := by have := keepP_two s l; omega

/-- Runs of a set and of its other side take turns from a place to the end. -/
inductive Turns (z : Nat) : Nat → List (Nat × Nat) → List (Nat × Nat) → Prop
  | done : Turns z z [] []
  | left {at' t : Nat} {A B : List (Nat × Nat)} : at' < t → t ≤ z → (∀ x, A.head? = some x → t < x.1) → Turns z t A B → Turns z at' ((at', t) :: A) B
  | right {at' t : Nat} {A B : List (Nat × Nat)} : at' < t → t ≤ z → (∀ x, B.head? = some x → t < x.1) → (∀ x, A.head? = some x → at' < x.1) → Turns z t A B → Turns z at' A ((at', t) :: B)
theorem contig_le : ∀ {r : List (Nat × Nat × Nat)} {p z : Nat}, Contig p r z → p ≤ z
  | [], p, z, h => by have : p = z := h; omega
  | x :: r, p, z, ⟨h1, h2, h3⟩ => by have := contig_le h3; omega
theorem runs_from (h : Int → Bool) (z : Nat) : ∀ (r : List (Nat × Nat × Nat)) (p : Nat), Contig p r z → ∀ x, (runsGo h z none r).head? = some x → p ≤ x.1
  | [], p, _, x, hx => by simp [runsGo] at hx
  | y :: r, p, ⟨h1, h2, h3⟩, x, hx => by
    rw [runsGo] at hx
    split at hx
    · have h4 := (runs_head h z r).2 y.2.1
      rw [hx] at h4
      simp at h4; omega
    · have := runs_from h z r y.2.2 h3 x hx; omega
theorem turns_go (h k : Int → Bool) (z : Nat) (hk : ∀ r : Nat, r ≤ 1114111 → k r = !h r) : ∀ (r : List (Nat × Nat × Nat)) (p a : Nat), Contig p r z → (∀ x ∈ r, x.1 ≤ 1114111) → a < p →
    Turns z a (runsGo h z (some a) r) (runsGo k z none r) ∧ Turns z a (runsGo h z none r) (runsGo k z (some a) r)
  | [], p, a, hc, _, ha => by
    obtain rfl : p = z := hc
    exact ⟨.left ha (Nat.le_refl _) (by simp) .done, .right ha (Nat.le_refl _) (by simp) (by simp [runsGo]) .done⟩
  | x :: r, p, a, ⟨h1, h2, h3⟩, hb, ha => by
    subst h1
    have hx := hk x.1 (hb x (by simp))
    have hz := contig_le h3
    obtain ⟨i1, i2⟩ := turns_go h k z hk r x.2.2 a h3 (fun y hy => hb y (by simp [hy])) (by omega)
    obtain ⟨j1, j2⟩ := turns_go h k z hk r x.2.2 x.2.1 h3 (fun y hy => hb y (by simp [hy])) h2
    cases hh : h x.1 with
    | true =>
      rw [hh] at hx
      simp only [runsGo, hh, hx, if_true, Bool.not_true, Bool.false_eq_true, if_false]
      refine ⟨i1, .right ha (by omega) (fun y hy => by have := runs_from k z r _ h3 y hy; omega) (fun y hy => ?_) j1⟩
      have h4 := (runs_head h z r).2 x.2.1
      rw [hy] at h4
      simp at h4; omega
    | false =>
      rw [hh] at hx
      simp only [runsGo, hh, hx, if_true, Bool.not_false, Bool.false_eq_true, if_false]
      exact ⟨.left ha (by omega) (fun y hy => by have := runs_from h z r _ h3 y hy; omega) j2, i2⟩
theorem turns_all (s : ByteArray) (l : List (Int × Int)) : Turns s.size 0 (runsP s l) (runsP s (notR l)) := by
  have hc := runesP_contig s
  have hb := fun x hx => (runesP_bd (s := s) x hx).2.2.2
  unfold runsP
  cases hr : runesP s with
  | nil =>
    rw [hr] at hc
    have h0 : 0 = s.size := hc
    rw [← h0]; exact .done
  | cons x r =>
    rw [hr] at hc hb
    obtain ⟨h1, h2, h3⟩ := hc
    obtain ⟨j1, j2⟩ := turns_go (hasB l) (hasB (notR l)) s.size (fun r hr => hasB_notR l r hr) r x.2.2 x.2.1 h3 (fun y hy => hb y (by simp [hy])) (by omega)
    have hx := hasB_notR l x.1 (hb x (by simp))
    rw [h1] at j1 j2
    cases hh : hasB l x.1 with
    | true => rw [hh] at hx; simp only [runsGo, hh, hx, if_true, Bool.not_true, Bool.false_eq_true, if_false]; rw [h1]; exact j1
    | false => rw [hh] at hx; simp only [runsGo, hh, hx, if_true, Bool.not_false, Bool.false_eq_true, if_false]; rw [h1]; exact j2

/- What is kept of a valid text. -/
theorem decN_same {n m b0 b1 b2 b3 c1 c2 c3 R W : Nat} (h : Lib.decodeN n b0 b1 b2 b3 = (R, W)) (hv : R ≠ 65533 ∨ W = 3) (hm : W ≤ m) (h1 : 2 ≤ W → c1 = b1) (h2 : 3 ≤ W → c2 = b2) (h3 : 4 ≤ W → c3 = b3) :
    Lib.decodeN m b0 c1 c2 c3 = (R, W) := by
  unfold Lib.decodeN at h
  split at h
  · rename_i g0
    injection h with hR hW
    subst hR; subst hW
    unfold Lib.decodeN; rw [if_pos g0]
  · rename_i g0
    split at h
    · rename_i g1
      split at h
      · rename_i g2
        injection h with hR hW
        subst hR; subst hW
        obtain rfl := h1 (by omega)
        unfold Lib.decodeN; rw [if_neg g0, if_pos ⟨g1.1, by omega, g1.2.2⟩, if_pos g2]
      · injection h with hR hW
        subst hR; subst hW
        rcases hv with hv | hv <;> omega
    · rename_i g1
      split at h
      · rename_i g2
        split at h
        · rename_i g3
          injection h with hR hW
          subst hR; subst hW
          obtain rfl := h1 (by omega)
          obtain rfl := h2 (by omega)
          unfold Lib.decodeN; rw [if_neg g0, if_neg (by omega), if_pos ⟨g2.1, ⟨by omega, g2.2.1.2⟩, by omega, g2.2.2.2⟩, if_pos g3]
        · injection h with hR hW
          subst hR; subst hW
          rcases hv with hv | hv <;> omega
      · rename_i g2
        split at h
        · rename_i g3
          split at h
          · rename_i g4
            injection h with hR hW
            subst hR; subst hW
            obtain rfl := h1 (by omega)
            obtain rfl := h2 (by omega)
            obtain rfl := h3 (by omega)
            unfold Lib.decodeN; rw [if_neg g0, if_neg (by omega), if_neg (by omega), if_pos ⟨g3.1, ⟨by omega, g3.2.1.2⟩, ⟨by omega, g3.2.2.1.2⟩, by omega, g3.2.2.2.2⟩, if_pos g4]
          · injection h with hR hW
            subst hR; subst hW
            rcases hv with hv | hv <;> omega
        · injection h with hR hW
          subst hR; subst hW
          rcases hv with hv | hv <;> omega
theorem dec_same {s t : ByteArray} {i j R W : Nat} (h : Utf8.decode s i = (R, W)) (h1 : 1 ≤ W) (hv : R ≠ 65533 ∨ W = 3) (ht : j + W ≤ t.size) (hg : ∀ k, k < W → t.get! (j + k) = s.get! (i + k)) : Utf8.decode t j = (R, W) := by
  rw [Lib.decode_at] at h ⊢
  have h0 := hg 0 (by omega)
  rw [Nat.add_zero, Nat.add_zero] at h0
  rw [h0]
  exact decN_same h hv (by omega) (fun h => by rw [hg 1 (by omega)]) (fun h => by rw [hg 2 (by omega)]) (fun h => by rw [hg 3 (by omega)])
theorem runes_cat (s t : ByteArray) : ∀ (L : List (Nat × Nat × Nat)) (pre : List UInt8) (f : Nat),
    (∀ x ∈ L, x.2.1 < x.2.2 ∧ x.2.2 ≤ s.size ∧ Utf8.decode s x.2.1 = (x.1, x.2.2 - x.2.1) ∧ (x.1 ≠ 65533 ∨ x.2.2 - x.2.1 = 3)) →
    t.data.toList = pre ++ L.flatMap (fun x => (s.extract x.2.1 x.2.2).data.toList) → t.size ≤ pre.length + f → (runesGo t f pre.length).map (·.1) = L.map (·.1)
  | [], pre, f, _, ht, hf => by
    have : t.size = pre.length := by rw [← size_data, ht]; simp
    rw [runesGo_end (by omega)]
  | x :: L, pre, f, hx, ht, hf => by
    obtain ⟨h1, h2, h3, h4⟩ := hx x (by simp)
    have hl := extract_len s (a := x.2.1) h2
    have hz : t.size = pre.length + (x.2.2 - x.2.1) + (L.flatMap (fun x => (s.extract x.2.1 x.2.2).data.toList)).length := by
      rw [← size_data, ht, List.flatMap_cons, List.length_append, List.length_append, hl]; omega
    have hd : Utf8.decode t pre.length = (x.1, x.2.2 - x.2.1) := dec_same h3 (by omega) h4 (by omega) fun k hk => by
      rw [← Lib.getD_get!' t, ← Lib.getD_get!' s, ht, List.flatMap_cons, List.getD_eq_getElem?_getD, List.getD_eq_getElem?_getD, List.getElem?_append_right (by omega), Nat.add_sub_cancel_left,
        List.getElem?_append_left (by omega), ByteArray.data_extract, Array.toList_extract, List.extract_eq_take_drop, List.getElem?_take_of_lt hk, List.getElem?_drop]
    obtain ⟨g, rfl, hg⟩ := runesGo_step (s := t) (f := f) (a := pre.length) (by omega) hf
    rw [hd] at hg
    rw [hg, List.map_cons, List.map_cons]
    have ih := runes_cat s t L (pre ++ (s.extract x.2.1 x.2.2).data.toList) g (fun y hy => hx y (by simp [hy])) (by rw [ht, List.flatMap_cons, List.append_assoc]) (by rw [List.length_append, hl]; omega)
    rw [List.length_append, hl] at ih
    simp only
    rw [ih]
/-- Each rune is whole. -/
def ValidP (s : ByteArray) : Prop := ∀ x ∈ runesP s, x.1 ≠ 65533 ∨ x.2.2 - x.2.1 = 3
theorem hasP_pts (L : List (Nat × Nat × Nat)) (h : ∀ x ∈ L, x.1 ≤ 1114111) (r : Int) : hasP (pts L) r ↔ ∃ x ∈ L, (x.1 : Int) = r := by
  unfold hasP memR pts
  constructor
  · rintro ⟨_, _, y, hy, h1, h2⟩
    obtain ⟨x, hx, rfl⟩ := List.mem_map.1 hy
    exact ⟨x, hx, by simp only at h1 h2; omega⟩
  · rintro ⟨x, hx, rfl⟩
    have := h x hx
    exact ⟨by omega, by omega, _, List.mem_map.2 ⟨x, hx, rfl⟩, by simp only; omega⟩
theorem ofP_keepP (s : ByteArray) (l : List (Int × Int)) (hv : ValidP s) : ofP ⟨(keepP s l).toArray⟩ = andR (ofP s) l := by
  have hc := runes_cat s ⟨(keepP s l).toArray⟩ ((runesP s).filter fun x => hasB l x.1) [] (keepP s l).length
    (fun x hx => by
      have hx := (List.mem_filter.1 hx).1
      have hb := runesP_bd x hx
      exact ⟨hb.1, hb.2.1, runesGo_dec _ _ x hx, hv x hx⟩) (by simp [keepP]) (by rw [← size_data]; simp)
  have e : pts (runesP ⟨(keepP s l).toArray⟩) = pts ((runesP s).filter fun x => hasB l x.1) := by
    have hz : (⟨(keepP s l).toArray⟩ : ByteArray).size = (keepP s l).length := by rw [← size_data]
    unfold runesP pts
    rw [hz]
    rw [List.length_nil] at hc
    have := congrArg (List.map fun r : Nat => ((r : Int), (r : Int))) hc
    simpa [List.map_map, Function.comp_def, runesP] using this
  have e1 : ofP ⟨(keepP s l).toArray⟩ = normR (pts ((runesP s).filter fun x => hasB l x.1)) := by rw [← e]; rfl
  have e2 : ofP s = normR (pts (runesP s)) := rfl
  rw [e1]
  refine NF_ext (normR_NF _) (andR_NF _ _) fun r => ?_
  rw [hasP_andR, e2, hasP_normR, hasP_normR, hasP_pts _ (fun x hx => (runesP_bd x ((List.mem_filter.1 hx).1)).2.2.2), hasP_pts _ (fun x hx => (runesP_bd x hx).2.2.2)]
  constructor
  · rintro ⟨x, hx, rfl⟩
    obtain ⟨h1, h2⟩ := List.mem_filter.1 hx
    exact ⟨⟨x, h1, rfl⟩, (hasB_iff _ _).1 h2⟩
  · rintro ⟨⟨x, hx, rfl⟩, h⟩
    exact ⟨x, List.mem_filter.2 ⟨hx, hasB_true h⟩, rfl⟩
end Go.Proofs.YteelepiaegpkhaaDoor
