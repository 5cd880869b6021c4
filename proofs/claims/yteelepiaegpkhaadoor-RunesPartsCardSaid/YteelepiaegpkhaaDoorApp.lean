/-
  WORDS FOR MEMORY, MORE: a row of the call's own whose elements have s cells; append onto it; a store into it. No program in sight.
-/
import Derived.Test.YteelepiaegpkhaaDoorMem
import Derived.Maps.AppendAt
import Derived.RegionTactic
import Derived.OwnWalk
namespace Go.Proofs.YteelepiaegpkhaaDoor
open Go.RowKit

/-- The slice at A is a row of the call's own (its block lies at base or beyond, is not frozen, is known whole); it holds the n elements cs of s cells each. -/
def Own (w : World) (base : Nat) (e : TypeId) (s : Nat) (A : Option Addr) (n c : Nat) (cs : List (List Value)) : Prop :=
  cs.length = n ∧ (∀ x ∈ cs, x.length = s) ∧ w.ownsRow base e s (.slice A n c) n cs.flatten

theorem flatten_len {s : Nat} : ∀ {cs : List (List Value)} (_ : ∀ x ∈ cs, x.length = s), cs.flatten.length = cs.length * s
  | [], _ => by simp
  | x :: r, h => by
    rw [List.flatten_cons, List.length_append, h x (by simp), flatten_len (fun y hy => h y (by simp [hy])), List.length_cons, Nat.add_mul]; omega
theorem flatten_at {s : Nat} : ∀ {cs : List (List Value)} (_ : ∀ x ∈ cs, x.length = s) {j : Nat} {u : Value} (_ : cs.flatten[j]? = some u), ∃ k r x, j = k * s + r ∧ cs[k]? = some x ∧ x[r]? = some u
  | [], _, j, u, h => by simp at h
  | x :: r, hs, j, u, h => by
    have hx := hs x (by simp)
    rw [List.flatten_cons] at h
    rcases Nat.lt_or_ge j x.length with hj | hj
    · rw [List.getElem?_append_left hj] at h
      exact ⟨0, j, x, by simp, rfl, h⟩
    · rw [List.getElem?_append_right hj] at h
      obtain ⟨k, q, y, h1, h2, h3⟩ := flatten_at (fun y hy => hs y (by simp [hy])) h
      exact ⟨k + 1, q, y, by rw [Nat.add_mul]; omega, by simpa using h2, h3⟩
theorem flatten_set {s : Nat} : ∀ {cs : List (List Value)} (_ : ∀ x ∈ cs, x.length = s) {k j : Nat} {x : List Value} {u : Value} (_ : cs[k]? = some x) (_ : j < s), cs.flatten.set (k * s + j) u = (cs.set k (x.set j u)).flatten
  | [], _, k, j, x, u, h, _ => by simp at h
  | y :: r, hs, 0, j, x, u, h, hj => by
    obtain rfl : y = x := by simpa using h
    have hy := hs y (by simp)
    simp only [List.flatten_cons, Nat.zero_mul, Nat.zero_add, List.set_cons_zero]
    rw [List.set_append_left _ _ (by omega)]
  | y :: r, hs, k + 1, j, x, u, h, hj => by
    have hy := hs y (by simp)
    simp only [List.flatten_cons, List.set_cons_succ]
    rw [List.set_append_right _ _ (by rw [hy, Nat.add_mul]; omega), hy, show (k + 1) * s + j - s = k * s + j by rw [Nat.add_mul]; omega,
      flatten_set (fun z hz => hs z (by simp [hz])) (by simpa using h) hj]

section
variable {w w' : World} {base : Nat} {e : TypeId} {s : Nat} {A : Option Addr} {n c : Nat} {cs : List (List Value)}
theorem Own.nil_ (w : World) (base : Nat) (e : TypeId) (s : Nat) : Own w base e s none 0 0 [] := ⟨rfl, by simp, World.ownsRow_nil w base e s⟩
theorem Own.lit (w : World) (base : Nat) (e : TypeId) (s : Nat) (hb : base ≤ w.heap.size) : Own (w.alloc (.cells #[] e)) base e s (some ⟨w.heap.size, 0, none⟩) 0 0 [] :=
  ⟨rfl, by simp, by simpa using World.ownsRow_lit (base := base) (e := e) (size := s) w #[] 0 hb (by unfold maxLen; omega) (by simp)⟩
theorem Own.len (h : Own w base e s A n c cs) : cs.length = n := h.1
theorem Own.rd (h : Own w base e s A n c cs) (hs : 0 < s) : Rd w s A cs := Rd.of_own h.2.2 h.2.1 hs
theorem Own.lt (h : Own w base e s A n c cs) : ∀ a, A = some a → base ≤ a.block ∧ a.block < w.heap.size := fun a ha => h.2.2.lt a.block (by rw [ha]; rfl)
theorem Own.keep (h : Own w base e s A n c cs) (hk : ∀ a, A = some a → w'.heap[a.block]? = w.heap[a.block]?) : Own w' base e s A n c cs := by
  refine ⟨h.1, h.2.1, h.2.2.1, ?_⟩
  rcases h.2.2.2 with h0 | ⟨g, cap, cur, hv, hg, hh, r⟩
  · exact .inl h0
  · refine .inr ⟨g, cap, cur, hv, hg, ?_, r⟩
    injection hv with hA
    rw [hk ⟨g, 0, none⟩ hA]; exact hh
theorem Own.below (h : Own w base e s A n c cs) (hb : Below w.heap.size w w') : Own w' base e s A n c cs := h.keep fun a ha => hb.block _ (h.lt a ha).2
theorem Own.drewN (h : Own w base e s A n c cs) (q : Nat) : Own (w.drewN q) base e s A n c cs := h
theorem Own.drew (h : Own w base e s A n c cs) : Own w.drew base e s A n c cs := h
theorem Own.alloc (h : Own w base e s A n c cs) (o : Obj) : Own (w.alloc o) base e s A n c cs := h.below ((Below.refl _ _).alloc (Nat.le_refl _) o)
theorem Own.setCell (h : Own w base e s A n c cs) {p : Addr} (hp : ∀ a, A = some a → a.block ≠ p.block) (u : Value) : Own (w.setCell p u) base e s A n c cs :=
  h.keep fun a ha => Below.heap_setCell w p u a.block (hp a ha)
theorem Own.grown (h : Own w base e s A n c cs) {row : Option Nat} (hg : w.grownBy w' row) (hne : ∀ a, A = some a → some a.block ≠ row) : Own w' base e s A n c cs :=
  h.keep fun a ha => hg.block _ (h.lt a ha).2 (hne a ha)
theorem Own.more {b' : Nat} (h : Own w base e s A n c cs) (hb : b' ≤ base) : Own w b' e s A n c cs := by
  refine ⟨h.1, h.2.1, h.2.2.1, ?_⟩
  rcases h.2.2.2 with h0 | ⟨g, cap, cur, hv, hg, r⟩
  · exact .inl h0
  · exact .inr ⟨g, cap, cur, hv, by omega, r⟩
/-- Where there is an element, the row's place. -/
theorem Own.form (h : Own w base e s A n c cs) (hn : 0 < n) : ∃ g, A = some ⟨g, 0, none⟩ ∧ base ≤ g ∧ g < w.heap.size := by
  obtain ⟨g, cap, hv, h1, h2⟩ := h.2.2.form hn
  injection hv with hA
  exact ⟨g, hA, h1, h2⟩
theorem Own.frozen {g : Nat} (h : Own w base e s (some ⟨g, 0, none⟩) n c cs) (i : Nat) : w.frozen? ⟨g, i, none⟩ = false := h.2.2.frozenAt i
theorem Own.cell {g k j : Nat} {x : List Value} {u : Value} (h : Own w base e s (some ⟨g, 0, none⟩) n c cs) (hx : cs[k]? = some x) (hu : x[j]? = some u) : w.cell? ⟨g, k * s + j, none⟩ = some u := by
  have hj : j < s := by rw [← h.2.1 x (List.mem_of_getElem? hx)]; exact (List.getElem?_eq_some_iff.1 hu).1
  have hk : k < n := by rw [← h.1]; exact (List.getElem?_eq_some_iff.1 hx).1
  have : k * s + j < n * s := by
    have : (k + 1) * s ≤ n * s := Nat.mul_le_mul_right s hk
    rw [Nat.add_mul] at this; omega
  rw [h.2.2.cellAt _ this]
  exact flatten_get h.2.1 hx hu
/-- One cell of one element is stored. -/
theorem Own.stored {g k j : Nat} {x : List Value} (h : Own w base e s (some ⟨g, 0, none⟩) n c cs) (hx : cs[k]? = some x) (hj : j < s) (u : Value) :
    Own (w.setCell ⟨g, k * s + j, none⟩ u) base e s (some ⟨g, 0, none⟩) n c (cs.set k (x.set j u)) := by
  refine ⟨by simpa using h.1, fun y hy => ?_, ?_⟩
  · rcases List.mem_or_eq_of_mem_set hy with hy | rfl
    · exact h.2.1 y hy
    · rw [List.length_set]; exact h.2.1 x (List.mem_of_getElem? hx)
  · rw [← flatten_set h.2.1 hx hj]
    exact (h.2.2.stored _ u).1
theorem Own.cap (h : Own w base e s A n c cs) : n ≤ c ∧ c ≤ maxLen := by
  rcases h.2.2.2 with ⟨h0, h1⟩ | ⟨g, cap, cur, hv, _, _, h1, h2, _⟩
  · injection h0 with _ _ hc
    subst hc; subst h1; exact ⟨Nat.le_refl _, by unfold maxLen; omega⟩
  · injection hv with _ _ hc
    subst hc; exact ⟨h1, h2⟩
end

theorem Rd.new (w : World) (t : TypeId) (s : Nat) (x : List Value) : Rd (w.alloc (.cells x.toArray t)) s (some ⟨w.heap.size, 0, none⟩) [x] := by
  intro _
  refine ⟨w.heap.size, 0, rfl, fun k j y u hy hu => ?_⟩
  match k, hy with
  | 0, hy =>
    obtain rfl : x = y := by simpa using hy
    unfold World.cell?
    rw [show (w.alloc (.cells x.toArray t)).heap[w.heap.size]? = some (.cells x.toArray t (0, 0)) from heap_alloc_new w _]
    simpa using hu

theorem Rd.newAt {w : World} {t : TypeId} {s b : Nat} {x : List Value} {xs : Array Value} (hb : b = w.heap.size) (hx : xs = x.toArray) : Rd (w.alloc (.cells xs t)) s (some ⟨b, 0, none⟩) [x] := by
  subst hb; subst hx; exact Rd.new w t s x

section
variable {P : Program}
theorem wp_app {o : Oper} {a : Act} {w : World} {K : Act → World → Prop} {Q : Exit → Act → World → Prop} (s x : Operand) (t : TypeId)
    (ho : o.op = .call { callee := .builtin .append, args := #[s, x], argTypes := #[t, t] })
    (base : Nat) (e : TypeId) (i : TypeInfo) (z : Value) (size bytes : Nat) (ht : P.underlying t = some (.slice e)) (hi : P.info? e = some i) (hz : i.zero = some z)
    (hsize : i.size = size) (hby : i.bytes = bytes) (hzs : z.cells.size = size) (hsz : 0 < size)
    (A : Option Addr) (n c : Nat) (cs : List (List Value)) (hs : a.eval s = .slice A n c) (hown : Own w base e size A n c cs)
    (A2 : Option Addr) (m c2 : Nat) (xs : List (List Value)) (hx : a.eval x = .slice A2 m c2) (hm : xs.length = m) (hr : Rd w size A2 xs) (h1 : ∀ y ∈ xs, y.length = size ∧ ∀ u ∈ y, u.oneCell' = true)
    (h63 : n + m ≤ maxLen) (hbytes : (n + m) * bytes ≤ 140737488355328) (hbase : base ≤ w.heap.size)
    (h : ∀ A' c' w', Own w' base e size A' (n + m) c' (cs ++ xs) → w.grownBy w' (A.map (·.block)) → (A' = A ∨ A' = some ⟨w.heap.size, 0, none⟩) → K (a.put o.dst (.slice A' (n + m) c')) w') : o.wp P a w K Q := by
  have hxl : ∀ y ∈ xs, y.length = size := fun y hy => (h1 y hy).1
  have hall : ∀ y ∈ cs ++ xs, y.length = size := fun y hy => by
    rcases List.mem_append.1 hy with hy | hy
    · exact hown.2.1 y hy
    · exact hxl y hy
  have hob : (Value.slice A n c).ownBlock = A.map (·.block) := by cases A <;> rfl
  have key : ∃ v' w', (Builtin.append_ #[t, t] o.type #[.slice A n c, .slice A2 m c2]).run P w = .ok v' w' ∧ w'.ownsRow base e size v' (n + m) (cs.flatten ++ xs.flatten) ∧ w.grownBy w' (Value.slice A n c).ownBlock ∧
      (v'.ownBlock = (Value.slice A n c).ownBlock ∨ v'.ownBlock = some w.heap.size) := by
    cases A2 with
    | none =>
      have hnil : xs = [] := Classical.byContradiction fun hne => by obtain ⟨b, off, hb, _⟩ := hr hne; cases hb
      subst hnil
      subst hm
      refine ⟨.slice A n c, w, ?_, by simpa using hown.2.2, World.grownBy.refl w _, .inl rfl⟩
      rcases hown.2.2.2 with ⟨h0, rfl⟩ | ⟨g, cap, cur, h0, _, _, hnc, _⟩
      · rw [h0]; simp [Builtin.append_, run_underlying ht, sizeOf, typeInfo, hi, Builtin.lenOf, Builtin.firstCells]
      · injection h0 with hA _ hc
        subst hA; subst hc
        simp [Builtin.append_, run_underlying ht, sizeOf, typeInfo, hi, Builtin.lenOf, Builtin.firstCells, hnc, storeCells]
    | some ad =>
      have hcells : ∀ j u, xs.flatten[j]? = some u → w.cell? (ad.add j) = some u := by
        intro j u hu
        obtain ⟨k, r, y, rfl, h2, h3⟩ := flatten_at hxl hu
        have hne : xs ≠ [] := fun e => by subst e; simp at h2
        obtain ⟨b, off, hb, hc⟩ := hr hne
        injection hb with hb
        subst hb
        have := hc k r y u h2 h3
        unfold Addr.add
        split
        · rename_i h0; rw [show off + k * size + r = off by omega] at this; exact this
        · simpa [Nat.add_assoc] using this
      obtain ⟨v', w', hrun, h2, h3, _, h5⟩ := run_append_own_at (P := P) w base t o.type e i z size bytes ht hi hz hsize hby hzs hsz (.slice A n c) n cs.flatten hown.2.2 ad m c2 xs.flatten
        (by rw [flatten_len hxl, hm]) hcells (fun u hu => by obtain ⟨y, hy, hu⟩ := List.mem_flatten.1 hu; exact (h1 y hy).2 u hu) h63 hbytes hbase
      exact ⟨v', w', hrun, h2, h3, h5⟩
  obtain ⟨v', w', hrun, h2, h3, h4⟩ := key
  rw [hob] at h3 h4
  have hv : ∃ A' c', v' = .slice A' (n + m) c' ∧ (A' = A ∨ A' = some ⟨w.heap.size, 0, none⟩) := by
    rcases h2.2 with ⟨rfl, h0⟩ | ⟨g, cap, cur, rfl, _⟩
    · refine ⟨none, 0, by rw [h0], .inl ?_⟩
      rcases hown.2.2.2 with ⟨h9, _⟩ | ⟨g', cap', cur', h9, _⟩
      · injection h9 with h9; exact h9.symm
      · injection h9 with h9
        rcases h4 with h4 | h4 <;> simp [Value.ownBlock, h9] at h4
    · refine ⟨_, _, rfl, ?_⟩
      rcases h4 with h4 | h4
      · left
        rcases hown.2.2.2 with ⟨h9, _⟩ | ⟨g', cap', cur', h9, _⟩
        · injection h9 with h9; subst h9; simp [Value.ownBlock] at h4
        · injection h9 with h9; subst h9; simp [Value.ownBlock] at h4; rw [h4]
      · right; simp [Value.ownBlock] at h4; rw [h4]
  obtain ⟨A', c', rfl, hA'⟩ := hv
  unfold Oper.wp execOp
  simp only [ho, resolve, invoke, builtin, Sem.run_bind, Sem.run_pure, Result.andThen_ok, List.map_toArray, List.map_cons, List.map_nil, hs, hx, hrun]
  exact h A' c' w' ⟨by rw [List.length_append, hown.1, hm], hall, by rw [List.flatten_append]; exact h2⟩ h3 hA'

theorem wpList_app {ops : Array Oper} {rest : List Oper} {o : Oper} {a : Act} {w : World} {Q : Exit → Act → World → Prop} (hgd : o.guard = none) (s x : Operand) (t : TypeId)
    (ho : o.op = .call { callee := .builtin .append, args := #[s, x], argTypes := #[t, t] })
    (base : Nat) (e : TypeId) (i : TypeInfo) (z : Value) (size bytes : Nat) (ht : P.underlying t = some (.slice e)) (hi : P.info? e = some i) (hz : i.zero = some z)
    (hsize : i.size = size) (hby : i.bytes = bytes) (hzs : z.cells.size = size) (hsz : 0 < size)
    (A : Option Addr) (n c : Nat) (cs : List (List Value)) (hs : a.eval s = .slice A n c) (hown : Own w base e size A n c cs)
    (A2 : Option Addr) (m c2 : Nat) (xs : List (List Value)) (hx : a.eval x = .slice A2 m c2) (hm : xs.length = m) (hr : Rd w size A2 xs) (h1 : ∀ y ∈ xs, y.length = size ∧ ∀ u ∈ y, u.oneCell' = true)
    (h63 : n + m ≤ maxLen) (hbytes : (n + m) * bytes ≤ 140737488355328) (hbase : base ≤ w.heap.size)
    (h : ∀ A' c' w', Own w' base e size A' (n + m) c' (cs ++ xs) → w.grownBy w' (A.map (·.block)) → (A' = A ∨ A' = some ⟨w.heap.size, 0, none⟩) → wpList P ops Q rest (a.put o.dst (.slice A' (n + m) c')) w') : wpList P ops Q (o :: rest) a w :=
  wpList_plain hgd fun _ hK => wp_app s x t ho base e i z size bytes ht hi hz hsize hby hzs hsz A n c cs hs hown A2 m c2 xs hx hm hr h1 h63 hbytes hbase fun A' c' w' h2 h3 h4 => hK _ _ (h A' c' w' h2 h3 h4)

theorem step_app {ops : Array Oper} {o : Oper} {a : Act} {w : World} {K : Act → World → Prop} {Q : Exit → Act → World → Prop} {E : Prop} (hgd : o.guard = none) (s x : Operand) (t : TypeId)
    (ho : o.op = .call { callee := .builtin .append, args := #[s, x], argTypes := #[t, t] })
    (base : Nat) (e : TypeId) (i : TypeInfo) (z : Value) (size bytes : Nat) (ht : P.underlying t = some (.slice e)) (hi : P.info? e = some i) (hz : i.zero = some z)
    (hsize : i.size = size) (hby : i.bytes = bytes) (hzs : z.cells.size = size) (hsz : 0 < size)
    (A : Option Addr) (n c : Nat) (cs : List (List Value)) (hs : a.eval s = .slice A n c) (hown : Own w base e size A n c cs)
    (A2 : Option Addr) (m c2 : Nat) (xs : List (List Value)) (hx : a.eval x = .slice A2 m c2) (hm : xs.length = m) (hr : Rd w size A2 xs) (h1 : ∀ y ∈ xs, y.length = size ∧ ∀ u ∈ y, u.oneCell' = true)
    (h63 : n + m ≤ maxLen) (hbytes : (n + m) * bytes ≤ 140737488355328) (hbase : base ≤ w.heap.size)
    (h : ∀ A' c' w', Own w' base e size A' (n + m) c' (cs ++ xs) → w.grownBy w' (A.map (·.block)) → (A' = A ∨ A' = some ⟨w.heap.size, 0, none⟩) → K (a.put o.dst (.slice A' (n + m) c')) w') :
    if Region.wanted o (yielded ops a.tmps) = true then Oper.wp P o a w K Q else E := by
  have hw : Region.wanted o (yielded ops a.tmps) = true := by simp [Region.wanted, hgd]
  rw [if_pos hw]
  exact wp_app s x t ho base e i z size bytes ht hi hz hsize hby hzs hsz A n c cs hs hown A2 m c2 xs hx hm hr h1 h63 hbytes hbase h
end

theorem set_mid {α : Type} (l1 : List α) (z y : α) (l2 : List α) : (l1 ++ z :: l2).set l1.length y = l1 ++ y :: l2 := by
  induction l1 with
  | nil => rfl
  | cons a l1 ih => simp [ih]
theorem get_mid {α : Type} (l1 : List α) (z : α) (l2 : List α) : (l1 ++ z :: l2)[l1.length]? = some z := by simp
/-- A whole range is stored. -/
theorem Own.storedR {w : World} {base : Nat} {e : TypeId} {g n c k : Nat} {l : List (Int × Int)} (h : Own w base e 2 (some ⟨g, 0, none⟩) n c (l.map encR)) (hk : k < l.length) (a b : Int) :
    Own ((w.setCell ⟨g, k * 2, none⟩ (.int .i32 a)).setCell ⟨g, k * 2 + 1, none⟩ (.int .i32 b)) base e 2 (some ⟨g, 0, none⟩) n c ((l.set k (a, b)).map encR) := by
  have h1 := h.stored (k := k) (j := 0) (x := encR l[k]) (by simp [hk]) (by omega) (.int .i32 a)
  have h2 := h1.stored (k := k) (j := 1) (x := (encR l[k]).set 0 (.int .i32 a)) (by simp [hk]) (by omega) (.int .i32 b)
  have e : ((l.map encR).set k ((encR l[k]).set 0 (.int .i32 a))).set k (((encR l[k]).set 0 (.int .i32 a)).set 1 (.int .i32 b)) = (l.set k (a, b)).map encR := by
    rw [List.set_set, List.map_set]; rfl
  rw [e] at h2
  exact h2
theorem Own.cellR {w : World} {base : Nat} {e : TypeId} {g n c k : Nat} {l : List (Int × Int)} {x : Int × Int} (h : Own w base e 2 (some ⟨g, 0, none⟩) n c (l.map encR)) (hk : l[k]? = some x) :
    w.cell? ⟨g, k * 2, none⟩ = some (.int .i32 x.1) ∧ w.cell? ⟨g, k * 2 + 1, none⟩ = some (.int .i32 x.2) := by
  have hx : (l.map encR)[k]? = some (encR x) := by simp [hk]
  exact ⟨h.cell (j := 0) hx rfl, h.cell (j := 1) hx rfl⟩

/-- The last range's upper end is stored. -/
theorem Own.storedHi {w : World} {base : Nat} {e : TypeId} {g n c j : Nat} {o : List (Int × Int)} {y1 y2 : Int} (h : Own w base e 2 (some ⟨g, 0, none⟩) n c ((o ++ [(y1, y2)]).map encR)) (hj : o.length = j) (b : Int) :
    Own (w.setCell ⟨g, j * 2 + 1, none⟩ (.int .i32 b)) base e 2 (some ⟨g, 0, none⟩) n c ((o ++ [(y1, b)]).map encR) := by
  subst hj
  have h1 := h.stored (k := o.length) (j := 1) (x := encR (y1, y2)) (by simp) (by omega) (.int .i32 b)
  have e : ((o ++ [(y1, y2)]).map encR).set o.length ((encR (y1, y2)).set 1 (.int .i32 b)) = (o ++ [(y1, b)]).map encR := by
    rw [List.map_append, List.map_append]
    have := set_mid (o.map encR) (encR (y1, y2)) ((encR (y1, y2)).set 1 (.int .i32 b)) []
    rw [List.length_map] at this
    exact this
  rw [e] at h1
  exact h1

/-- A block that is known whole; none of its cells is frozen. -/
def Blk (w : World) (g : Nat) (t : TypeId) (cs : Array Value) : Prop := w.heap[g]? = some (.cells cs t (0, 0))
section
variable {w w' : World} {g : Nat} {t : TypeId} {cs : Array Value}
theorem Blk.lt (h : Blk w g t cs) : g < w.heap.size := (Array.getElem?_eq_some_iff.1 h).1
theorem Blk.cell (h : Blk w g t cs) (i : Nat) : w.cell? ⟨g, i, none⟩ = cs[i]? := by unfold Blk at h; simp [World.cell?, h]
theorem Blk.frozen (h : Blk w g t cs) (i : Nat) : w.frozen? ⟨g, i, none⟩ = false := by unfold Blk at h; simp [World.frozen?, h]
theorem Blk.new (w : World) (t : TypeId) (cs : Array Value) : Blk (w.alloc (.cells cs t)) w.heap.size t cs := heap_alloc_new w _
theorem Blk.drew (h : Blk w g t cs) : Blk w.drew g t cs := h
theorem Blk.drewN (h : Blk w g t cs) (n : Nat) : Blk (w.drewN n) g t cs := h
theorem Blk.alloc (h : Blk w g t cs) (o : Obj) : Blk (w.alloc o) g t cs := (Below.heap_alloc w o g h.lt).trans h
theorem Blk.set_ (h : Blk w g t cs) (i : Nat) (u : Value) : Blk (w.setCell ⟨g, i, none⟩ u) g t (cs.setIfInBounds i u) := by
  unfold Blk at h ⊢; simp [World.setCell, Array.getElem?_modify, h]
theorem Blk.far (h : Blk w g t cs) {p : Addr} (hp : g ≠ p.block) (u : Value) : Blk (w.setCell p u) g t cs := (Below.heap_setCell w p u g hp).trans h
theorem Blk.below (h : Blk w g t cs) (hb : Below w.heap.size w w') : Blk w' g t cs := (hb.block g h.lt).trans h
theorem Blk.grown {row : Option Nat} (h : Blk w g t cs) (hb : w.grownBy w' row) (hg : some g ≠ row) : Blk w' g t cs := (hb.block g h.lt hg).trans h
end
/- Only one block, and what is new, has turned. -/
theorem only_drewN {a w : World} {row : Option Nat} (h : a.grownBy w row) (n : Nat) : a.grownBy (w.drewN n) row := ⟨h.os, h.tape, h.output, h.size, h.block⟩
theorem only_drew {a w : World} {row : Option Nat} (h : a.grownBy w row) : a.grownBy w.drew row := ⟨h.os, h.tape, h.output, h.size, h.block⟩
theorem only_alloc {a w : World} {row : Option Nat} (h : a.grownBy w row) (o : Obj) : a.grownBy (w.alloc o) row :=
  ⟨h.os, h.tape, h.output, Nat.le_trans h.size (by simp), fun i hi hne => (Below.heap_alloc w o i (Nat.lt_of_lt_of_le hi h.size)).trans (h.block i hi hne)⟩
theorem only_setCell {a w : World} {g : Nat} (h : a.grownBy w (some g)) {p : Addr} (hp : p.block = g ∨ a.heap.size ≤ p.block) (u : Value) : a.grownBy (w.setCell p u) (some g) :=
  ⟨h.os, h.tape, h.output, by simpa [World.setCell] using h.size, fun i hi hne => (Below.heap_setCell w p u i (by
    rintro rfl
    rcases hp with hp | hp
    · exact hne (by rw [hp])
    · omega)).trans (h.block i hi hne)⟩
theorem only_below {a w w' : World} {row : Option Nat} (h : a.grownBy w row) (hb : Below w.heap.size w w') : a.grownBy w' row :=
  ⟨hb.os.trans h.os, hb.tape.trans h.tape, hb.output.trans h.output, Nat.le_trans h.size hb.size, fun i hi hne => (hb.block i (Nat.lt_of_lt_of_le hi h.size)).trans (h.block i hi hne)⟩
theorem only_trans {a b c : World} {row : Option Nat} (h : a.grownBy b row) (k : b.grownBy c row) : a.grownBy c row :=
  ⟨k.os.trans h.os, k.tape.trans h.tape, k.output.trans h.output, Nat.le_trans h.size k.size, fun i hi hne => (k.block i (Nat.lt_of_lt_of_le hi h.size) hne).trans (h.block i hi hne)⟩
theorem only_refl (w : World) (row : Option Nat) : w.grownBy w row := ⟨rfl, rfl, rfl, Nat.le_refl _, fun _ _ _ => rfl⟩
/-- Where the one block that turned lies at B or beyond. -/
theorem below_only {B : Nat} {w w' : World} {g : Nat} (h : w.grownBy w' (some g)) (hB : B ≤ w.heap.size) (hg : B ≤ g) : Below B w w' :=
  ⟨h.os, h.tape, h.output, h.size, fun k hk => h.block k (by omega) (fun e => by injection e; omega)⟩

/-- Behind an append onto a row of the call's own: nothing below B has turned. -/
theorem below_app {B : Nat} {a w w' : World} {A : Option Addr} (h : Below B a w) (hg : w.grownBy w' (A.map (·.block))) (hB : B ≤ w.heap.size) (hA : ∀ ad, A = some ad → B ≤ ad.block) : Below B a w' :=
  h.grown hg hB fun k hk => by
    cases A with
    | none => simp at hk
    | some ad => simp at hk; rw [← hk]; exact hA ad rfl
end Go.Proofs.YteelepiaegpkhaaDoor
