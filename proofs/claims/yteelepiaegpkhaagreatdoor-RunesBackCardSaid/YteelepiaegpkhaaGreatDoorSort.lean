/-
  THE SHELF's WORDS ON A SORTED ROW, SAID OF A ROW OF THE CALL's OWN. No program in sight.
-/
import Derived.Test.YteelepiaegpkhaaGreatDoorApp
import Derived.Shelf.SlSortCmp.WholeK
namespace Go.Proofs.YteelepiaegpkhaaGreatDoor
open Go.RowKit Go.Sort

section
variable {α : Type} [Inhabited α] {enc : α → List Value} {k : Nat} {w : World} {base : Nat} {e : TypeId} {g n c : Nat} {d : Array α}

theorem own_holdsK (hk : ∀ x, (enc x).length = k) (hpos : 0 < k) (h : Own w base e k (some ⟨g, 0, none⟩) n c (d.toList.map enc)) : HoldsK enc k w g 0 d := by
  intro j hj
  rw [size_flatK] at hj
  have hq : j / k < d.size := (Nat.div_lt_iff_lt_mul hpos).2 hj
  have hr : j % k < (enc d[j / k]!).length := by rw [hk]; exact Nat.mod_lt _ hpos
  refine ⟨?_, ?_⟩
  · rw [id, get_flatK enc k d j hj]
    have h1 := h.cell (k := j / k) (j := j % k) (x := enc d[j / k]!) (u := (enc d[j / k]!)[j % k]!) (by rw [List.getElem?_map]; simp [hq]) (by rw [List.getElem?_eq_getElem hr, getElem!_pos (enc d[j / k]!) (j % k) hr])
    rw [show 0 + j = j / k * k + j % k by rw [Nat.zero_add, Nat.div_add_mod']]
    exact h1
  · exact h.frozen _

theorem flat_take (hk : ∀ x, (enc x).length = k) (hpos : 0 < k) {d' : Array α} {cur : Array Value} (hc : d'.size * k ≤ cur.size) :
    ((putCells id 0 (flatK enc k d') cur).toList.take (d'.size * k)) = (d'.toList.map enc).flatten := by
  apply List.ext_getElem?
  intro t
  have hall : ∀ x ∈ d'.toList.map enc, x.length = k := fun x hx => by obtain ⟨y, _, rfl⟩ := List.mem_map.1 hx; exact hk y
  by_cases ht : t < d'.size * k
  · have hq : t / k < d'.size := (Nat.div_lt_iff_lt_mul hpos).2 ht
    have hr : t % k < (enc d'[t / k]!).length := by rw [hk]; exact Nat.mod_lt _ hpos
    have h1 := flatten_get hall (k := t / k) (j := t % k) (x := enc d'[t / k]!) (u := (enc d'[t / k]!)[t % k]!) (by rw [List.getElem?_map]; simp [hq]) (by rw [List.getElem?_eq_getElem hr, getElem!_pos (enc d'[t / k]!) (t % k) hr])
    rw [Nat.div_add_mod'] at h1
    rw [h1, List.getElem?_take, if_pos ht, Array.getElem?_toList, putCells, Array.getElem?_mapIdx, Array.getElem?_eq_getElem (by omega)]
    have h2 := get_flatK enc k d' t ht
    simp only [Option.map_some, Nat.zero_le, true_and, Nat.zero_add, size_flatK, ht, if_true, id, Nat.sub_zero]
    rw [h2]
  · rw [List.getElem?_take, if_neg ht, List.getElem?_eq_none]
    rw [flatten_len hall]; simp; omega

theorem own_sorted (hk : ∀ x, (enc x).length = k) (hpos : 0 < k) (h : Own w base e k (some ⟨g, 0, none⟩) n c (d.toList.map enc)) {d' : Array α} (hs : d'.size = d.size) (m : Nat) (os : Array Obj) :
    Own (sortWorldK enc k w g 0 m d' os) base e k (some ⟨g, 0, none⟩) n c (d'.toList.map enc) ∧ w.grownBy (sortWorldK enc k w g 0 m d' os) (some g) := by
  have hn : d.size = n := by have := h.1; simpa using this
  rcases h.2.2.2 with ⟨h0, _⟩ | ⟨g', cap, cur, hv, hb, hh, h1, h2, h3, h4⟩
  · cases h0
  · injection hv with hA _ hc
    injection hA with hA
    injection hA with hA
    subst hA; subst hc
    have hlt : g < w.heap.size := (Array.getElem?_eq_some_iff.1 hh).1
    refine ⟨⟨by simp [hs, hn], fun x hx => by obtain ⟨y, _, rfl⟩ := List.mem_map.1 hx; exact hk y, ?_, .inr ⟨g, c, putCells id 0 (flatK enc k d') cur, rfl, hb, ?_, h1, h2, ?_, ?_⟩⟩, ?_⟩
    · rw [flatten_len (s := k) (fun x hx => by obtain ⟨y, _, rfl⟩ := List.mem_map.1 hx; exact hk y)]; simp [hs, hn]
    · show (grow _ os).heap[g]? = _
      rw [heap_grow_old _ _ (by simp [putRowK, putRow, mapBlock]; exact hlt)]
      simp only [putRowK, putRow, mapBlock, Array.getElem?_modify, if_true]
      rw [show (Go.Sort.ahead w m).heap = w.heap from rfl, hh]; rfl
    · simp [putCells, h3]
    · have := flat_take (d' := d') (cur := cur) hk hpos (by rw [h3, hs, hn]; exact Nat.mul_le_mul_right k h1)
      rw [hs, hn] at this
      exact this
    · refine ⟨rfl, rfl, rfl, by simp [sortWorldK, putRowK, putRow, mapBlock], fun i hi hne => ?_⟩
      show (grow _ os).heap[i]? = _
      rw [heap_grow_old _ _ (by simp [putRowK, putRow, mapBlock]; exact hi)]
      simp only [putRowK, putRow, mapBlock, Array.getElem?_modify]
      rw [if_neg (fun e => hne (by rw [e]))]; rfl
end
end Go.Proofs.YteelepiaegpkhaaGreatDoor
