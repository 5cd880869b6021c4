/-
  LineNever: plain; kerflaw14.among, walked.
-/
import Derived.Test.YtinfnfgflcjfmaaGreatDoorZ8a
import Derived.Test.YtinfnfgflcjfmaaGreatDoorYLineNever0a
namespace Go.Proofs.YtinfnfgflcjfmaaGreatDoor
open Go.RowKit

theorem names_inj : ∀ k : Nat, k < 26 → ∀ m : Nat, m < 26 → linesD.names[k]? = linesD.names[m]? → k = m := by decide
theorem nm_at (r : Int) : linesD.names[gL r]? = some (nmL r) := by
  have hlt : gL r < linesD.names.length := by rw [names_len]; exact gL_lt _
  unfold nmL
  rw [List.getElem?_eq_getElem hlt]; rfl
/-- Is a class's name this one? -/
theorem nmS (r : Int) {m : Nat} {l : List UInt8} (h : linesD.names[m]? = some l) : ((bytesOf (nmL r)).toList == l) = (((gL r : Nat) : Int) == (m : Int)) := by
  rw [ByteArray.toList_eq, bytesOf_list]
  have h1 := nm_at r
  by_cases e : gL r = m
  · subst e
    rw [h] at h1
    injection h1 with h1
    rw [h1]; simp
  · have h2 : (((gL r : Nat) : Int) == (m : Int)) = false := by rw [beq_eq_false_iff_ne]; omega
    rw [h2, beq_eq_false_iff_ne]
    intro e2
    rw [e2] at h1
    have hm : m < 26 := by rw [← names_len]; exact (List.getElem?_eq_some_iff.1 h).1
    exact e (names_inj _ (gL_lt r) m hm (by rw [h1, h]))
theorem amongS1 (r : Int) : [[83, 112], [90, 119], [66, 107], [67, 114], [76, 102]].contains (nmL r) = [4, 5, 1, 2, 3].contains ((gL r : Nat) : Int) := by
  have : ∀ k : Nat, k < 26 → ∀ nm ∈ linesD.names[k]?, [[83, 112], [90, 119], [66, 107], [67, 114], [76, 102]].contains nm = [4, 5, 1, 2, 3].contains (k : Int) := by decide
  exact this _ (gL_lt r) _ (nm_at r)
theorem amongS2 (r : Int) : [[87, 106], [67, 108], [67, 112], [69, 120], [73, 115], [83, 121]].contains (nmL r) = [6, 11, 10, 13, 14, 15].contains ((gL r : Nat) : Int) := by
  have : ∀ k : Nat, k < 26 → ∀ nm ∈ linesD.names[k]?, [[87, 106], [67, 108], [67, 112], [69, 120], [73, 115], [83, 121]].contains nm = [6, 11, 10, 13, 14, 15].contains (k : Int) := by decide
  exact this _ (gL_lt r) _ (nm_at r)
theorem amongS4 (r : Int) : [[79, 116, 104, 101, 114], [78, 117], [71, 108], [87, 106]].contains (nmL r) = [0, 20, 7, 6].contains ((gL r : Nat) : Int) := by
  have : ∀ k : Nat, k < 26 → ∀ nm ∈ linesD.names[k]?, [[79, 116, 104, 101, 114], [78, 117], [71, 108], [87, 106]].contains nm = [0, 20, 7, 6].contains (k : Int) := by decide
  exact this _ (gL_lt r) _ (nm_at r)
theorem amongS5 (r : Int) : [[79, 116, 104, 101, 114], [78, 117]].contains (nmL r) = [0, 20].contains ((gL r : Nat) : Int) := by
  have : ∀ k : Nat, k < 26 → ∀ nm ∈ linesD.names[k]?, [[79, 116, 104, 101, 114], [78, 117]].contains nm = [0, 20].contains (k : Int) := by decide
  exact this _ (gL_lt r) _ (nm_at r)

/-- Must a line end behind a, ahead of b? -/
def endsL (a b : Int) : Bool := (a == 1 || a == 3) || (a == 2 && b != 3)
def kcP (c : List Int) (i : Nat) : Int := if lCut c i = true then (if lMust (c.getD (i - 1) 0) then 2 else 1) else 0
section
variable {c : List Int} {j : Nat}
theorem must_false {a : Int} (h : ¬ (a = 1 ∨ a = 2 ∨ a = 3)) : lMust a = false := by
  cases hq : lMust a with
  | false => rfl
  | true => exact absurd ((lMust_iff a).1 hq) h
theorem kc_end : endsL (c.getD j 0) (c.getD (j + 1) 0) = (kcP c (j + 1) == 2) := by
  unfold kcP endsL
  rw [Nat.add_sub_cancel]
  generalize hp : c.getD j 0 = p
  generalize hq : c.getD (j + 1) 0 = q
  by_cases hm : p = 1 ∨ p = 2 ∨ p = 3
  · have hm' : lMust p = true := (lMust_iff p).2 hm
    have := lCut_end (c := c) (i := j) (by rw [hp]; exact hm')
    rw [this, hp, hq, hm']
    rcases hm with rfl | rfl | rfl
    · simp
    · by_cases h3 : q = 3
      · subst h3; simp
      · simp [h3]
    · simp
  · rw [must_false hm]
    have h1 : p ≠ 1 := fun h => hm (.inl h)
    have h2 : p ≠ 2 := fun h => hm (.inr (.inl h))
    have h3 : p ≠ 3 := fun h => hm (.inr (.inr h))
    split <;> simp [h1, h2, h3]
theorem kc_zero (h : lCut c (j + 1) = false) : kcP c (j + 1) = 0 := by unfold kcP; rw [h]; rfl
theorem end_cases (h : endsL (c.getD j 0) (c.getD (j + 1) 0) = false) : lMust (c.getD j 0) = false ∨ kcP c (j + 1) = 0 := by
  cases hm : lMust (c.getD j 0) with
  | false => exact .inl rfl
  | true =>
    refine .inr (kc_zero ?_)
    rw [lCut_end hm]
    unfold endsL at h
    simp only [Bool.or_eq_false_iff, Bool.and_eq_false_iff, beq_eq_false_iff_ne, bne_eq_false_iff_eq] at h
    have := (lMust_iff _).1 hm
    rw [decide_eq_true (by omega)]; rfl
theorem kc_1 (h : endsL (c.getD j 0) (c.getD (j + 1) 0) = false) (hq : [4, 5, 1, 2, 3].contains (c.getD (j + 1) 0) = true) : kcP c (j + 1) = 0 := by
  rcases end_cases h with hm | hm
  · refine kc_zero (lCut_blank hm ?_)
    simp at hq ⊢
    omega
  · exact hm
theorem kc_2 (h : endsL (c.getD j 0) (c.getD (j + 1) 0) = false) (hq : [6, 11, 10, 13, 14, 15].contains (c.getD (j + 1) 0) = true) (hz : lZw c (j + 1) = false) : kcP c (j + 1) = 0 := by
  rcases end_cases h with hm | hm
  · refine kc_zero (lNever_close hm hz ?_)
    simpa using hq
  · exact hm
theorem kc_3 (hp : c.getD j 0 = 7 ∨ c.getD j 0 = 6) : kcP c (j + 1) = 0 := kc_zero (lNever_glue hp)
theorem kc_4 (hp : c.getD j 0 = 0) (hq : [0, 20, 7, 6].contains (c.getD (j + 1) 0) = true) : kcP c (j + 1) = 0 :=
  kc_zero (lNever_letters (.inl ⟨hp, by simpa using hq⟩))
theorem kc_5 (hp : c.getD j 0 = 20) (hq : [0, 20].contains (c.getD (j + 1) 0) = true) : kcP c (j + 1) = 0 :=
  kc_zero (lNever_letters (.inr ⟨hp, by simpa using hq⟩))
end

theorem Rd.litsS (W : World) (t : TypeId) (xs : List (List UInt8)) : Rd (W.alloc (.cells (xs.map fun l => Value.string (bytesOf l)).toArray t)) 1 (some ⟨W.heap.size, 0, none⟩) (xs.map encNm) :=
  Rd.many W t 1 (xs.map encNm) _ (by congr 1; induction xs with | nil => rfl | cons a r ih => simp [encNm, ih]) (by intro x hx; obtain ⟨y, _, rfl⟩ := List.mem_map.1 hx; rfl)
theorem Rd.atNm {w : World} {A : Option Addr} {l : List (List UInt8)} {k : Nat} {x : List UInt8} (h : Rd w 1 A (l.map encNm)) (hk : l[k]? = some x) : ∃ b off, A = some ⟨b, off, none⟩ ∧ w.cell? ⟨b, off + k, none⟩ = some (.string (bytesOf x)) := by
  obtain ⟨b, off, rfl, hc⟩ := h (by intro e; cases l with | nil => simp at hk | cons _ _ => simp at e)
  have h0 := hc k 0 (encNm x) (.string (bytesOf x)) (by simp [hk]) rfl
  exact ⟨b, off, rfl, by simpa using h0⟩
set_option maxRecDepth 100000 in
set_option maxHeartbeats 2000000 in
theorem yamong_any (A : Option Addr) (n c : Nat) (xs : List (List UInt8)) (nm : List UInt8) (w : World) (hA : Rd w 1 A (xs.map encNm)) (hl : xs.length = n) (hn : n ≤ 100) :
    Calls Tryz.prog 22 #[.string (bytesOf nm), .slice A n c] w fun e w' => e = .returned (.bool (xs.contains nm)) ∧ w = w' := by
  have Hl := Lib.hid hl
  clear hl
  obtain ⟨r, Hr⟩ : ∃ r, Hid (xs.contains nm = r) := ⟨_, Lib.hid rfl⟩
  rw [Hr.out]
  go_enter Tryz.func22, Tryz.ntmps22
  go_wp2
  go_loopw [5] (fun v wr => ∃ j : Nat, v = .int .i64 j ∧ j ≤ n ∧ Hid ((xs.drop j).contains nm = r) ∧ wr = w) (fun v _ => n - (intOf v).toNat)
  case atStart => exact ⟨0, rfl, by omega, Lib.hid Hr.out, rfl⟩
  case round =>
    obtain ⟨j, rfl, hj, HN, rfl⟩ := hrel
    by_cases hlt : j < n
    · obtain ⟨y, Hy⟩ : ∃ y, Hid (xs[j]? = some y) := ⟨_, Lib.hid (List.getElem?_eq_getElem (by have := Hl.out; omega))⟩
      obtain ⟨b, off, rfl, hc⟩ := hA.atNm Hy.out
      have HD := Lib.hid (drop_of Hy.out)
      have HE := Lib.hid (show (bytesOf y).toList = y by rw [ByteArray.toList_eq, bytesOf_list])
      have HE2 := Lib.hid (show (bytesOf nm).toList = nm by rw [ByteArray.toList_eq, bytesOf_list])
      by_cases hq : bytesOf y = bytesOf nm
      · have hyn : y = nm := by rw [← HE.out, ← HE2.out, hq]
        have HV : Hid (r = true) := Lib.hid (by rw [← HN.out, HD.out, hyn]; simp)
        rw [hq] at hc
        clear hq hyn
        go_wp2
        go_ret
        exact ⟨by rw [HV.out]; rfl, rfl⟩
      · have hyn : y ≠ nm := fun e => hq (by rw [e])
        have HN' : Hid ((xs.drop (j + 1)).contains nm = r) := Lib.hid (by rw [← HN.out, HD.out, List.contains_cons, beq_eq_false_iff_ne.2 (Ne.symm hyn), Bool.false_or])
        have hq1 : ((bytesOf y).toList == (bytesOf nm).toList) = false := by rw [HE.out, HE2.out]; exact beq_eq_false_iff_ne.2 hyn
        clear hyn
        go_wp2
        go_roundw
        case rel => exact ⟨j + 1, by go_num, by omega, HN', trivial⟩
        case measure => simp [intOf]; omega
    · have HV : Hid (r = false) := Lib.hid (by rw [← HN.out, List.drop_eq_nil_of_le (by have := Hl.out; omega)]; rfl)
      go_wp2
      go_ret
      exact ⟨by rw [HV.out]; rfl, rfl⟩
theorem yamong_b (nm : List UInt8) (xs : List (List UInt8)) (n : Nat) (W : World) (arr : Array Value) (harr : arr = (xs.map fun l => Value.string (bytesOf l)).toArray) (hn : xs.length = n) (hz : n ≤ 10) :
    Calls Tryz.prog 22 #[.string (bytesOf nm), .slice (some ⟨W.heap.size, 0, none⟩) n n] (W.alloc (.cells arr 9)) fun e w' => e = .returned (.bool (xs.contains nm)) ∧ Below W.heap.size W w' := by
  subst harr
  exact (yamong_any (some ⟨W.heap.size, 0, none⟩) n n xs nm _ (Rd.litsS W 9 xs) hn (by omega)).mono (by rintro e w' ⟨h1, h2⟩; exact ⟨h1, by rw [← h2]; exact (Below.refl _ _).alloc (Nat.le_refl _) _⟩)
end Go.Proofs.YtinfnfgflcjfmaaGreatDoor

