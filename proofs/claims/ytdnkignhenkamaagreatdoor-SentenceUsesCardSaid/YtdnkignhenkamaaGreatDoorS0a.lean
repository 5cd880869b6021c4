/-
  Several texts in one, in their build order: Mem, App, Plain, Base, Alg, Same, Sort, Post, Rng, AppIn, RngC, Rgn, Last.
-/
import Derived.Below
import Derived.Laws.OwnMore
import Derived.Deep.AppendLies
import Derived.Deep.Draws
import Derived.Lib.Hide
import Derived.Maps.AppendAt
import Derived.RegionTactic
import Derived.OwnWalk
import Derived.Test.YtdnkignhenkamaaGreatDoorProg
import Derived.WalkKit
import Derived.WalkSpells
import Derived.WalkLawsBesides
import Derived.Outline
import Derived.BigQuiet
import Derived.Deep.QuietTactic
import Derived.Laws.StructEq
import Derived.Deep.DeepFit
import Derived.Shelf.SlSortCmp.WholeK
import Derived.Carry
import Derived.ChangeSame
import Derived.OpenShut
import Derived.ProofKit
import Derived.Deep.SlicePairs
import Derived.SizedLaws
import Derived.ChangeSlices
import Derived.RangeFuncNested
import Derived.RangeFuncLeaves
import Derived.OwnWalkIn
import Derived.RangeFuncBound
import Derived.Deep.RegionHeld3
import Derived.CallsIn
import Derived.OrdersIn
import Derived.RangeFuncCalls
/- -/
namespace Go.Proofs.YtdnkignhenkamaaGreatDoor
open Go.RowKit
theorem cell_lt {w : World} {p : Addr} {u : Value} (h : w.cell? p = some u) : p.block < w.heap.size := by
  rcases Nat.lt_or_ge p.block w.heap.size with hlt | hge
  · exact hlt
  · unfold World.cell? at h; rw [Array.getElem?_eq_none hge] at h; cases h
theorem cell_below {w w' : World} {B : Nat} {p : Addr} {u : Value} (h : w.cell? p = some u) (hp : p.block < B) (hb : Below B w w') : w'.cell? p = some u := (hb.cell hp).trans h
theorem cell_keep {w w' : World} {p : Addr} {u : Value} (h : w.cell? p = some u) (hb : Below w.heap.size w w') : w'.cell? p = some u := (hb.cell (cell_lt h)).trans h
theorem below_drewN {B : Nat} {a w : World} (h : Below B a w) (n : Nat) : Below B a (w.drewN n) := ⟨h.os, h.tape, h.output, h.size, h.block⟩
theorem below_refl_drewN {B : Nat} (w : World) (n : Nat) : Below B w (w.drewN n) := below_drewN (Below.refl _ _) n
theorem below_step {B : Nat} {a b c : World} (h : Below B a b) (k : Below b.heap.size b c) (hB : B ≤ b.heap.size) : Below B a c := h.trans (k.mono hB)
theorem below_two {a b c : World} (h : Below a.heap.size a b) (k : Below b.heap.size b c) : Below a.heap.size a c := below_step h k h.size
def Rd (w : World) (s : Nat) (A : Option Addr) (cs : List (List Value)) : Prop :=
  cs ≠ [] → ∃ b off, A = some ⟨b, off, none⟩ ∧ ∀ (k j : Nat) (x : List Value) (u : Value), cs[k]? = some x → x[j]? = some u → w.cell? ⟨b, off + k * s + j, none⟩ = some u
section
variable {w w' : World} {s : Nat} {A : Option Addr} {cs : List (List Value)}
theorem Rd.nil_ (w : World) (s : Nat) (A : Option Addr) : Rd w s A [] := fun h => absurd rfl h
theorem Rd.keep (h : Rd w s A cs) (hk : ∀ (b off i : Nat) (u : Value), A = some ⟨b, off, none⟩ → w.cell? ⟨b, i, none⟩ = some u → w'.cell? ⟨b, i, none⟩ = some u) : Rd w' s A cs := fun hn => by
  obtain ⟨b, off, rfl, hc⟩ := h hn
  exact ⟨b, off, rfl, fun k j x u hx hu => hk b off _ u rfl (hc k j x u hx hu)⟩
theorem Rd.below (h : Rd w s A cs) (hb : Below w.heap.size w w') : Rd w' s A cs := h.keep fun _ _ _ _ _ hp => cell_keep hp hb
theorem Rd.belowB {B : Nat} (h : Rd w s A cs) (hb : Below B w w') (hB : ∀ a, A = some a → a.block < B) : Rd w' s A cs :=
  h.keep fun b off i _ ha hp => cell_below (p := ⟨b, i, none⟩) hp (hB ⟨b, off, none⟩ ha) hb
theorem Rd.drewN (h : Rd w s A cs) (n : Nat) : Rd (w.drewN n) s A cs := h
theorem Rd.drew (h : Rd w s A cs) : Rd w.drew s A cs := h
theorem Rd.alloc (h : Rd w s A cs) (o : Obj) : Rd (w.alloc o) s A cs := h.below ((Below.refl _ _).alloc (Nat.le_refl _) o)
theorem Rd.setCell (h : Rd w s A cs) {p : Addr} (hp : ∀ a, A = some a → a.block ≠ p.block) (u : Value) : Rd (w.setCell p u) s A cs :=
  h.keep fun b off i v ha hc => (World.cell?_setCell_other w p ⟨b, i, none⟩ u (fun e => hp _ ha (by rw [e]))).trans hc
theorem Rd.lt (h : Rd w s A cs) (hs : ∀ x ∈ cs, x ≠ []) (hn : cs ≠ []) : ∃ b off, A = some ⟨b, off, none⟩ ∧ b < w.heap.size := by
  obtain ⟨b, off, rfl, hc⟩ := h hn
  cases cs with
  | nil => exact absurd rfl hn
  | cons x r =>
    cases x with
    | nil => exact absurd rfl (hs _ (by simp))
    | cons u y => exact ⟨b, off, rfl, cell_lt (hc 0 0 (u :: y) u rfl rfl)⟩
theorem flatten_get {s : Nat} : ∀ {cs : List (List Value)} (_ : ∀ x ∈ cs, x.length = s) {k j : Nat} {x : List Value} {u : Value} (_ : cs[k]? = some x) (_ : x[j]? = some u), cs.flatten[k * s + j]? = some u
  | [], _, k, j, x, u, hx, _ => by simp at hx
  | y :: r, hs, 0, j, x, u, hx, hu => by
    obtain rfl : y = x := by simpa using hx
    have hj : j < y.length := (List.getElem?_eq_some_iff.1 hu).1
    simp only [List.flatten_cons, Nat.zero_mul, Nat.zero_add]
    rw [List.getElem?_append_left hj]; exact hu
  | y :: r, hs, k + 1, j, x, u, hx, hu => by
    have hy : y.length = s := hs y (by simp)
    have := flatten_get (cs := r) (fun z hz => hs z (by simp [hz])) (k := k) (j := j) (x := x) (u := u) (by simpa using hx) hu
    simp only [List.flatten_cons]
    rw [List.getElem?_append_right (by rw [hy, Nat.add_mul]; omega), hy, show (k + 1) * s + j - s = k * s + j by rw [Nat.add_mul]; omega]
    exact this
theorem Rd.of_own {base n c : Nat} {e : TypeId} (h : w.ownsRow base e s (.slice A n c) n cs.flatten) (hs : ∀ x ∈ cs, x.length = s) (hpos : 0 < s) : Rd w s A cs := by
  intro hn
  have hl : 0 < n := by
    rcases Nat.eq_zero_or_pos n with h0 | h0
    · subst h0
      have h1 := h.1
      cases cs with
      | nil => exact absurd rfl hn
      | cons x r => have := hs x (by simp); simp at h1; simp [h1.1] at this; omega
    · exact h0
  obtain ⟨g, cap, hv, _, _⟩ := h.form hl
  injection hv with hA
  subst hA
  refine ⟨g, 0, rfl, fun k j x u hx hu => ?_⟩
  have := h.cells (g := g) rfl (k * s + j) u (flatten_get hs hx hu)
  unfold Addr.add at this
  split at this
  · rename_i h0
    rw [show 0 + k * s + j = 0 by omega]; exact this
  · simpa using this
end
def encR (r : Int × Int) : List Value := [.int .i32 r.1, .int .i32 r.2]
theorem Rd.atR {w : World} {A : Option Addr} {l : List (Int × Int)} (h : Rd w 2 A (l.map encR)) {k : Nat} (hk : k < l.length) :
    ∃ b off lo hi, A = some ⟨b, off, none⟩ ∧ Hid (l[k]? = some (lo, hi)) ∧ w.cell? ⟨b, off + k * 2, none⟩ = some (.int .i32 lo) ∧ w.cell? ⟨b, off + k * 2 + 1, none⟩ = some (.int .i32 hi) := by
  obtain ⟨b, off, rfl, hc⟩ := h (by intro e; cases l with | nil => simp at hk | cons _ _ => simp at e)
  have h0 := hc k 0 (encR l[k]) (.int .i32 l[k].1) (by simp [hk]) rfl
  have h1 := hc k 1 (encR l[k]) (.int .i32 l[k].2) (by simp [hk]) rfl
  exact ⟨b, off, l[k].1, l[k].2, rfl, List.getElem?_eq_getElem hk, by simpa using h0, h1⟩
theorem ret_bool {a b : Bool} (h : a = b) : Ending.returned (.bool a) = .returned (.bool b) := by rw [h]
end Go.Proofs.YtdnkignhenkamaaGreatDoor

/- -/
namespace Go.Proofs.YtdnkignhenkamaaGreatDoor
open Go.RowKit
def Own (w : World) (base : Nat) (e : TypeId) (s : Nat) (A : Option Addr) (n c : Nat) (cs : List (List Value)) : Prop :=
  cs.length = n ∧ (∀ x ∈ cs, x.length = s) ∧ w.ownsRow base e s (.slice A n c) n cs.flatten
theorem flatten_len {s : Nat} : ∀ {cs : List (List Value)} (_ : ∀ x ∈ cs, x.length = s), cs.flatten.length = cs.length * s
  | [], _ => by simp
  | x :: r, h => by
    rw [List.flatten_cons, List.length_append, h x (by simp), flatten_len (fun y hy => h y (by simp [hy])), List.length_cons, Nat.add_mul]; omega
theorem flatten_at {s : Nat} : ∀ {cs : List (List Value)} (_ : ∀ x ∈ cs, x.length = s) {j : Nat} {u : Value} (_ : cs.flatten[j]? = some u), ∃ k r x, j = k * s + r ∧ cs[k]? = some x ∧ x[r]? = some u
  | [], _, j, u, h => by simp at h
  | x :: r, hs, j, u, h => by
    have hx := hs x (by simp)
    rw [List.flatten_cons] at h
    rcases Nat.lt_or_ge j x.length with hj | hj
    · rw [List.getElem?_append_left hj] at h
      exact ⟨0, j, x, by simp, rfl, h⟩
    · rw [List.getElem?_append_right hj] at h
      obtain ⟨k, q, y, h1, h2, h3⟩ := flatten_at (fun y hy => hs y (by simp [hy])) h
      exact ⟨k + 1, q, y, by rw [Nat.add_mul]; omega, by simpa using h2, h3⟩
theorem flatten_set {s : Nat} : ∀ {cs : List (List Value)} (_ : ∀ x ∈ cs, x.length = s) {k j : Nat} {x : List Value} {u : Value} (_ : cs[k]? = some x) (_ : j < s), cs.flatten.set (k * s + j) u = (cs.set k (x.set j u)).flatten
  | [], _, k, j, x, u, h, _ => by simp at h
  | y :: r, hs, 0, j, x, u, h, hj => by
    obtain rfl : y = x := by simpa using h
    have hy := hs y (by simp)
    simp only [List.flatten_cons, Nat.zero_mul, Nat.zero_add, List.set_cons_zero]
    rw [List.set_append_left _ _ (by omega)]
  | y :: r, hs, k + 1, j, x, u, h, hj => by
    have hy := hs y (by simp)
    simp only [List.flatten_cons, List.set_cons_succ]
    rw [List.set_append_right _ _ (by rw [hy, Nat.add_mul]; omega), hy, show (k + 1) * s + j - s = k * s + j by rw [Nat.add_mul]; omega,
      flatten_set (fun z hz => hs z (by simp [hz])) (by simpa using h) hj]
section
variable {w w' : World} {base : Nat} {e : TypeId} {s : Nat} {A : Option Addr} {n c : Nat} {cs : List (List Value)}
theorem Own.nil_ (w : World) (base : Nat) (e : TypeId) (s : Nat) : Own w base e s none 0 0 [] := ⟨rfl, by simp, World.ownsRow_nil w base e s⟩
theorem Own.lit (w : World) (base : Nat) (e : TypeId) (s : Nat) (hb : base ≤ w.heap.size) : Own (w.alloc (.cells #[] e)) base e s (some ⟨w.heap.size, 0, none⟩) 0 0 [] :=
  ⟨rfl, by simp, by simpa using World.ownsRow_lit (base := base) (e := e) (size := s) w #[] 0 hb (by unfold maxLen; omega) (by simp)⟩
theorem Own.len (h : Own w base e s A n c cs) : cs.length = n := h.1
theorem Own.rd (h : Own w base e s A n c cs) (hs : 0 < s) : Rd w s A cs := Rd.of_own h.2.2 h.2.1 hs
theorem Own.lt (h : Own w base e s A n c cs) : ∀ a, A = some a → base ≤ a.block ∧ a.block < w.heap.size := fun a ha => h.2.2.lt a.block (by rw [ha]; rfl)
theorem Own.keep (h : Own w base e s A n c cs) (hk : ∀ a, A = some a → w'.heap[a.block]? = w.heap[a.block]?) : Own w' base e s A n c cs := by
  refine ⟨h.1, h.2.1, h.2.2.1, ?_⟩
  rcases h.2.2.2 with h0 | ⟨g, cap, cur, hv, hg, hh, r⟩
  · exact .inl h0
  · refine .inr ⟨g, cap, cur, hv, hg, ?_, r⟩
    injection hv with hA
    rw [hk ⟨g, 0, none⟩ hA]; exact hh
theorem Own.below (h : Own w base e s A n c cs) (hb : Below w.heap.size w w') : Own w' base e s A n c cs := h.keep fun a ha => hb.block _ (h.lt a ha).2
theorem Own.drewN (h : Own w base e s A n c cs) (q : Nat) : Own (w.drewN q) base e s A n c cs := h
theorem Own.drew (h : Own w base e s A n c cs) : Own w.drew base e s A n c cs := h
theorem Own.alloc (h : Own w base e s A n c cs) (o : Obj) : Own (w.alloc o) base e s A n c cs := h.below ((Below.refl _ _).alloc (Nat.le_refl _) o)
theorem Own.setCell (h : Own w base e s A n c cs) {p : Addr} (hp : ∀ a, A = some a → a.block ≠ p.block) (u : Value) : Own (w.setCell p u) base e s A n c cs :=
  h.keep fun a ha => Below.heap_setCell w p u a.block (hp a ha)
theorem Own.grown (h : Own w base e s A n c cs) {row : Option Nat} (hg : w.grownBy w' row) (hne : ∀ a, A = some a → some a.block ≠ row) : Own w' base e s A n c cs :=
  h.keep fun a ha => hg.block _ (h.lt a ha).2 (hne a ha)
theorem Own.more {b' : Nat} (h : Own w base e s A n c cs) (hb : b' ≤ base) : Own w b' e s A n c cs := by
  refine ⟨h.1, h.2.1, h.2.2.1, ?_⟩
  rcases h.2.2.2 with h0 | ⟨g, cap, cur, hv, hg, r⟩
  · exact .inl h0
  · exact .inr ⟨g, cap, cur, hv, by omega, r⟩
theorem Own.form (h : Own w base e s A n c cs) (hn : 0 < n) : ∃ g, A = some ⟨g, 0, none⟩ ∧ base ≤ g ∧ g < w.heap.size := by
  obtain ⟨g, cap, hv, h1, h2⟩ := h.2.2.form hn
  injection hv with hA
  exact ⟨g, hA, h1, h2⟩
theorem Own.frozen {g : Nat} (h : Own w base e s (some ⟨g, 0, none⟩) n c cs) (i : Nat) : w.frozen? ⟨g, i, none⟩ = false := h.2.2.frozenAt i
theorem Own.cell {g k j : Nat} {x : List Value} {u : Value} (h : Own w base e s (some ⟨g, 0, none⟩) n c cs) (hx : cs[k]? = some x) (hu : x[j]? = some u) : w.cell? ⟨g, k * s + j, none⟩ = some u := by
  have hj : j < s := by rw [← h.2.1 x (List.mem_of_getElem? hx)]; exact (List.getElem?_eq_some_iff.1 hu).1
  have hk : k < n := by rw [← h.1]; exact (List.getElem?_eq_some_iff.1 hx).1
  have : k * s + j < n * s := by
    have : (k + 1) * s ≤ n * s := Nat.mul_le_mul_right s hk
    rw [Nat.add_mul] at this; omega
  rw [h.2.2.cellAt _ this]
  exact flatten_get h.2.1 hx hu
theorem Own.stored {g k j : Nat} {x : List Value} (h : Own w base e s (some ⟨g, 0, none⟩) n c cs) (hx : cs[k]? = some x) (hj : j < s) (u : Value) :
    Own (w.setCell ⟨g, k * s + j, none⟩ u) base e s (some ⟨g, 0, none⟩) n c (cs.set k (x.set j u)) := by
  refine ⟨by simpa using h.1, fun y hy => ?_, ?_⟩
  · rcases List.mem_or_eq_of_mem_set hy with hy | rfl
    · exact h.2.1 y hy
    · rw [List.length_set]; exact h.2.1 x (List.mem_of_getElem? hx)
  · rw [← flatten_set h.2.1 hx hj]
    exact (h.2.2.stored _ u).1
theorem Own.cap (h : Own w base e s A n c cs) : n ≤ c ∧ c ≤ maxLen := by
  rcases h.2.2.2 with ⟨h0, h1⟩ | ⟨g, cap, cur, hv, _, _, h1, h2, _⟩
  · injection h0 with _ _ hc
    subst hc; subst h1; exact ⟨Nat.le_refl _, by unfold maxLen; omega⟩
  · injection hv with _ _ hc
    subst hc; exact ⟨h1, h2⟩
end
theorem Rd.new (w : World) (t : TypeId) (s : Nat) (x : List Value) : Rd (w.alloc (.cells x.toArray t)) s (some ⟨w.heap.size, 0, none⟩) [x] := by
  intro _
  refine ⟨w.heap.size, 0, rfl, fun k j y u hy hu => ?_⟩
  match k, hy with
  | 0, hy =>
    obtain rfl : x = y := by simpa using hy
    unfold World.cell?
    rw [show (w.alloc (.cells x.toArray t)).heap[w.heap.size]? = some (.cells x.toArray t (0, 0)) from heap_alloc_new w _]
    simpa using hu
theorem Rd.newAt {w : World} {t : TypeId} {s b : Nat} {x : List Value} {xs : Array Value} (hb : b = w.heap.size) (hx : xs = x.toArray) : Rd (w.alloc (.cells xs t)) s (some ⟨b, 0, none⟩) [x] := by
  subst hb; subst hx; exact Rd.new w t s x
section
variable {P : Program}
theorem wp_app {o : Oper} {a : Act} {w : World} {K : Act → World → Prop} {Q : Exit → Act → World → Prop} (s x : Operand) (t : TypeId)
    (ho : o.op = .call { callee := .builtin .append, args := #[s, x], argTypes := #[t, t] })
    (base : Nat) (e : TypeId) (i : TypeInfo) (z : Value) (size bytes : Nat) (ht : P.underlying t = some (.slice e)) (hi : P.info? e = some i) (hz : i.zero = some z)
    (hsize : i.size = size) (hby : i.bytes = bytes) (hzs : z.cells.size = size) (hsz : 0 < size)
    (A : Option Addr) (n c : Nat) (cs : List (List Value)) (hs : a.eval s = .slice A n c) (hown : Own w base e size A n c cs)
    (A2 : Option Addr) (m c2 : Nat) (xs : List (List Value)) (hx : a.eval x = .slice A2 m c2) (hm : xs.length = m) (hr : Rd w size A2 xs) (h1 : ∀ y ∈ xs, y.length = size ∧ ∀ u ∈ y, u.oneCell' = true)
    (h63 : n + m ≤ maxLen) (hbytes : (n + m) * bytes ≤ 140737488355328) (hbase : base ≤ w.heap.size)
    (h : ∀ A' c' w', Own w' base e size A' (n + m) c' (cs ++ xs) → w.grownBy w' (A.map (·.block)) → (A' = A ∨ A' = some ⟨w.heap.size, 0, none⟩) → K (a.put o.dst (.slice A' (n + m) c')) w') : o.wp P a w K Q := by
  have hxl : ∀ y ∈ xs, y.length = size := fun y hy => (h1 y hy).1
  have hall : ∀ y ∈ cs ++ xs, y.length = size := fun y hy => by
    rcases List.mem_append.1 hy with hy | hy
    · exact hown.2.1 y hy
    · exact hxl y hy
  have hob : (Value.slice A n c).ownBlock = A.map (·.block) := by cases A <;> rfl
  have key : ∃ v' w', (Builtin.append_ #[t, t] o.type #[.slice A n c, .slice A2 m c2]).run P w = .ok v' w' ∧ w'.ownsRow base e size v' (n + m) (cs.flatten ++ xs.flatten) ∧ w.grownBy w' (Value.slice A n c).ownBlock ∧
      (v'.ownBlock = (Value.slice A n c).ownBlock ∨ v'.ownBlock = some w.heap.size) := by
    cases A2 with
    | none =>
      have hnil : xs = [] := Classical.byContradiction fun hne => by obtain ⟨b, off, hb, _⟩ := hr hne; cases hb
      subst hnil
      subst hm
      refine ⟨.slice A n c, w, ?_, by simpa using hown.2.2, World.grownBy.refl w _, .inl rfl⟩
      rcases hown.2.2.2 with ⟨h0, rfl⟩ | ⟨g, cap, cur, h0, _, _, hnc, _⟩
      · rw [h0]; simp [Builtin.append_, run_underlying ht, sizeOf, typeInfo, hi, Builtin.lenOf, Builtin.firstCells]
      · injection h0 with hA _ hc
        subst hA; subst hc
        simp [Builtin.append_, run_underlying ht, sizeOf, typeInfo, hi, Builtin.lenOf, Builtin.firstCells, hnc, storeCells]
    | some ad =>
      have hcells : ∀ j u, xs.flatten[j]? = some u → w.cell? (ad.add j) = some u := by
        intro j u hu
        obtain ⟨k, r, y, rfl, h2, h3⟩ := flatten_at hxl hu
        have hne : xs ≠ [] := fun e => by subst e; simp at h2
        obtain ⟨b, off, hb, hc⟩ := hr hne
        injection hb with hb
        subst hb
        have := hc k r y u h2 h3
        unfold Addr.add
        split
        · rename_i h0; rw [show off + k * size + r = off by omega] at this; exact this
        · simpa [Nat.add_assoc] using this
      obtain ⟨v', w', hrun, h2, h3, _, h5⟩ := run_append_own_at (P := P) w base t o.type e i z size bytes ht hi hz hsize hby hzs hsz (.slice A n c) n cs.flatten hown.2.2 ad m c2 xs.flatten
        (by rw [flatten_len hxl, hm]) hcells (fun u hu => by obtain ⟨y, hy, hu⟩ := List.mem_flatten.1 hu; exact (h1 y hy).2 u hu) h63 hbytes hbase
      exact ⟨v', w', hrun, h2, h3, h5⟩
  obtain ⟨v', w', hrun, h2, h3, h4⟩ := key
  rw [hob] at h3 h4
  have hv : ∃ A' c', v' = .slice A' (n + m) c' ∧ (A' = A ∨ A' = some ⟨w.heap.size, 0, none⟩) := by
    rcases h2.2 with ⟨rfl, h0⟩ | ⟨g, cap, cur, rfl, _⟩
    · refine ⟨none, 0, by rw [h0], .inl ?_⟩
      rcases hown.2.2.2 with ⟨h9, _⟩ | ⟨g', cap', cur', h9, _⟩
      · injection h9 with h9; exact h9.symm
      · injection h9 with h9
        rcases h4 with h4 | h4 <;> simp [Value.ownBlock, h9] at h4
    · refine ⟨_, _, rfl, ?_⟩
      rcases h4 with h4 | h4
      · left
        rcases hown.2.2.2 with ⟨h9, _⟩ | ⟨g', cap', cur', h9, _⟩
        · injection h9 with h9; subst h9; simp [Value.ownBlock] at h4
        · injection h9 with h9; subst h9; simp [Value.ownBlock] at h4; rw [h4]
      · right; simp [Value.ownBlock] at h4; rw [h4]
  obtain ⟨A', c', rfl, hA'⟩ := hv
  unfold Oper.wp execOp
  simp only [ho, resolve, invoke, builtin, Sem.run_bind, Sem.run_pure, Result.andThen_ok, List.map_toArray, List.map_cons, List.map_nil, hs, hx, hrun]
  exact h A' c' w' ⟨by rw [List.length_append, hown.1, hm], hall, by rw [List.flatten_append]; exact h2⟩ h3 hA'
theorem wpList_app {ops : Array Oper} {rest : List Oper} {o : Oper} {a : Act} {w : World} {Q : Exit → Act → World → Prop} (hgd : o.guard = none) (s x : Operand) (t : TypeId)
    (ho : o.op = .call { callee := .builtin .append, args := #[s, x], argTypes := #[t, t] })
    (base : Nat) (e : TypeId) (i : TypeInfo) (z : Value) (size bytes : Nat) (ht : P.underlying t = some (.slice e)) (hi : P.info? e = some i) (hz : i.zero = some z)
    (hsize : i.size = size) (hby : i.bytes = bytes) (hzs : z.cells.size = size) (hsz : 0 < size)
    (A : Option Addr) (n c : Nat) (cs : List (List Value)) (hs : a.eval s = .slice A n c) (hown : Own w base e size A n c cs)
    (A2 : Option Addr) (m c2 : Nat) (xs : List (List Value)) (hx : a.eval x = .slice A2 m c2) (hm : xs.length = m) (hr : Rd w size A2 xs) (h1 : ∀ y ∈ xs, y.length = size ∧ ∀ u ∈ y, u.oneCell' = true)
    (h63 : n + m ≤ maxLen) (hbytes : (n + m) * bytes ≤ 140737488355328) (hbase : base ≤ w.heap.size)
    (h : ∀ A' c' w', Own w' base e size A' (n + m) c' (cs ++ xs) → w.grownBy w' (A.map (·.block)) → (A' = A ∨ A' = some ⟨w.heap.size, 0, none⟩) → wpList P ops Q rest (a.put o.dst (.slice A' (n + m) c')) w') : wpList P ops Q (o :: rest) a w :=
  wpList_plain hgd fun _ hK => wp_app s x t ho base e i z size bytes ht hi hz hsize hby hzs hsz A n c cs hs hown A2 m c2 xs hx hm hr h1 h63 hbytes hbase fun A' c' w' h2 h3 h4 => hK _ _ (h A' c' w' h2 h3 h4)
theorem step_app {ops : Array Oper} {o : Oper} {a : Act} {w : World} {K : Act → World → Prop} {Q : Exit → Act → World → Prop} {E : Prop} (hgd : o.guard = none) (s x : Operand) (t : TypeId)
    (ho : o.op = .call { callee := .builtin .append, args := #[s, x], argTypes := #[t, t] })
    (base : Nat) (e : TypeId) (i : TypeInfo) (z : Value) (size bytes : Nat) (ht : P.underlying t = some (.slice e)) (hi : P.info? e = some i) (hz : i.zero = some z)
    (hsize : i.size = size) (hby : i.bytes = bytes) (hzs : z.cells.size = size) (hsz : 0 < size)
    (A : Option Addr) (n c : Nat) (cs : List (List Value)) (hs : a.eval s = .slice A n c) (hown : Own w base e size A n c cs)
    (A2 : Option Addr) (m c2 : Nat) (xs : List (List Value)) (hx : a.eval x = .slice A2 m c2) (hm : xs.length = m) (hr : Rd w size A2 xs) (h1 : ∀ y ∈ xs, y.length = size ∧ ∀ u ∈ y, u.oneCell' = true)
    (h63 : n + m ≤ maxLen) (hbytes : (n + m) * bytes ≤ 140737488355328) (hbase : base ≤ w.heap.size)
    (h : ∀ A' c' w', Own w' base e size A' (n + m) c' (cs ++ xs) → w.grownBy w' (A.map (·.block)) → (A' = A ∨ A' = some ⟨w.heap.size, 0, none⟩) → K (a.put o.dst (.slice A' (n + m) c')) w') :
    if Region.wanted o (yielded ops a.tmps) = true then Oper.wp P o a w K Q else E := by
  have hw : Region.wanted o (yielded ops a.tmps) = true := by simp [Region.wanted, hgd]
  rw [if_pos hw]
  exact wp_app s x t ho base e i z size bytes ht hi hz hsize hby hzs hsz A n c cs hs hown A2 m c2 xs hx hm hr h1 h63 hbytes hbase h
end
theorem set_mid {α : Type} (l1 : List α) (z y : α) (l2 : List α) : (l1 ++ z :: l2).set l1.length y = l1 ++ y :: l2 := by
  induction l1 with
  | nil => rfl
  | cons a l1 ih => simp [ih]
theorem get_mid {α : Type} (l1 : List α) (z : α) (l2 : List α) : (l1 ++ z :: l2)[l1.length]? = some z := by simp
theorem Own.storedR {w : World} {base : Nat} {e : TypeId} {g n c k : Nat} {l : List (Int × Int)} (h : Own w base e 2 (some ⟨g, 0, none⟩) n c (l.map encR)) (hk : k < l.length) (a b : Int) :
    Own ((w.setCell ⟨g, k * 2, none⟩ (.int .i32 a)).setCell ⟨g, k * 2 + 1, none⟩ (.int .i32 b)) base e 2 (some ⟨g, 0, none⟩) n c ((l.set k (a, b)).map encR) := by
  have h1 := h.stored (k := k) (j := 0) (x := encR l[k]) (by simp [hk]) (by omega) (.int .i32 a)
  have h2 := h1.stored (k := k) (j := 1) (x := (encR l[k]).set 0 (.int .i32 a)) (by simp [hk]) (by omega) (.int .i32 b)
  have e : ((l.map encR).set k ((encR l[k]).set 0 (.int .i32 a))).set k (((encR l[k]).set 0 (.int .i32 a)).set 1 (.int .i32 b)) = (l.set k (a, b)).map encR := by
    rw [List.set_set, List.map_set]; rfl
  rw [e] at h2
  exact h2
theorem Own.cellR {w : World} {base : Nat} {e : TypeId} {g n c k : Nat} {l : List (Int × Int)} {x : Int × Int} (h : Own w base e 2 (some ⟨g, 0, none⟩) n c (l.map encR)) (hk : l[k]? = some x) :
    w.cell? ⟨g, k * 2, none⟩ = some (.int .i32 x.1) ∧ w.cell? ⟨g, k * 2 + 1, none⟩ = some (.int .i32 x.2) := by
  have hx : (l.map encR)[k]? = some (encR x) := by simp [hk]
  exact ⟨h.cell (j := 0) hx rfl, h.cell (j := 1) hx rfl⟩
theorem Own.storedHi {w : World} {base : Nat} {e : TypeId} {g n c j : Nat} {o : List (Int × Int)} {y1 y2 : Int} (h : Own w base e 2 (some ⟨g, 0, none⟩) n c ((o ++ [(y1, y2)]).map encR)) (hj : o.length = j) (b : Int) :
    Own (w.setCell ⟨g, j * 2 + 1, none⟩ (.int .i32 b)) base e 2 (some ⟨g, 0, none⟩) n c ((o ++ [(y1, b)]).map encR) := by
  subst hj
  have h1 := h.stored (k := o.length) (j := 1) (x := encR (y1, y2)) (by simp) (by omega) (.int .i32 b)
  have e : ((o ++ [(y1, y2)]).map encR).set o.length ((encR (y1, y2)).set 1 (.int .i32 b)) = (o ++ [(y1, b)]).map encR := by
    rw [List.map_append, List.map_append]
    have := set_mid (o.map encR) (encR (y1, y2)) ((encR (y1, y2)).set 1 (.int .i32 b)) []
    rw [List.length_map] at this
    exact this
  rw [e] at h1
  exact h1
def Blk (w : World) (g : Nat) (t : TypeId) (cs : Array Value) : Prop := w.heap[g]? = some (.cells cs t (0, 0))
section
variable {w w' : World} {g : Nat} {t : TypeId} {cs : Array Value}
theorem Blk.lt (h : Blk w g t cs) : g < w.heap.size := (Array.getElem?_eq_some_iff.1 h).1
theorem Blk.cell (h : Blk w g t cs) (i : Nat) : w.cell? ⟨g, i, none⟩ = cs[i]? := by unfold Blk at h; simp [World.cell?, h]
theorem Blk.frozen (h : Blk w g t cs) (i : Nat) : w.frozen? ⟨g, i, none⟩ = false := by unfold Blk at h; simp [World.frozen?, h]
theorem Blk.new (w : World) (t : TypeId) (cs : Array Value) : Blk (w.alloc (.cells cs t)) w.heap.size t cs := heap_alloc_new w _
theorem Blk.drew (h : Blk w g t cs) : Blk w.drew g t cs := h
theorem Blk.drewN (h : Blk w g t cs) (n : Nat) : Blk (w.drewN n) g t cs := h
theorem Blk.alloc (h : Blk w g t cs) (o : Obj) : Blk (w.alloc o) g t cs := (Below.heap_alloc w o g h.lt).trans h
theorem Blk.set_ (h : Blk w g t cs) (i : Nat) (u : Value) : Blk (w.setCell ⟨g, i, none⟩ u) g t (cs.setIfInBounds i u) := by
  unfold Blk at h ⊢; simp [World.setCell, Array.getElem?_modify, h]
theorem Blk.far (h : Blk w g t cs) {p : Addr} (hp : g ≠ p.block) (u : Value) : Blk (w.setCell p u) g t cs := (Below.heap_setCell w p u g hp).trans h
theorem Blk.below (h : Blk w g t cs) (hb : Below w.heap.size w w') : Blk w' g t cs := (hb.block g h.lt).trans h
theorem Blk.grown {row : Option Nat} (h : Blk w g t cs) (hb : w.grownBy w' row) (hg : some g ≠ row) : Blk w' g t cs := (hb.block g h.lt hg).trans h
end
theorem only_drewN {a w : World} {row : Option Nat} (h : a.grownBy w row) (n : Nat) : a.grownBy (w.drewN n) row := ⟨h.os, h.tape, h.output, h.size, h.block⟩
theorem only_drew {a w : World} {row : Option Nat} (h : a.grownBy w row) : a.grownBy w.drew row := ⟨h.os, h.tape, h.output, h.size, h.block⟩
theorem only_alloc {a w : World} {row : Option Nat} (h : a.grownBy w row) (o : Obj) : a.grownBy (w.alloc o) row :=
  ⟨h.os, h.tape, h.output, Nat.le_trans h.size (by simp), fun i hi hne => (Below.heap_alloc w o i (Nat.lt_of_lt_of_le hi h.size)).trans (h.block i hi hne)⟩
theorem only_setCell {a w : World} {g : Nat} (h : a.grownBy w (some g)) {p : Addr} (hp : p.block = g ∨ a.heap.size ≤ p.block) (u : Value) : a.grownBy (w.setCell p u) (some g) :=
  ⟨h.os, h.tape, h.output, by simpa [World.setCell] using h.size, fun i hi hne => (Below.heap_setCell w p u i (by
    rintro rfl
    rcases hp with hp | hp
    · exact hne (by rw [hp])
    · omega)).trans (h.block i hi hne)⟩
theorem only_below {a w w' : World} {row : Option Nat} (h : a.grownBy w row) (hb : Below w.heap.size w w') : a.grownBy w' row :=
  ⟨hb.os.trans h.os, hb.tape.trans h.tape, hb.output.trans h.output, Nat.le_trans h.size hb.size, fun i hi hne => (hb.block i (Nat.lt_of_lt_of_le hi h.size)).trans (h.block i hi hne)⟩
theorem only_trans {a b c : World} {row : Option Nat} (h : a.grownBy b row) (k : b.grownBy c row) : a.grownBy c row :=
  ⟨k.os.trans h.os, k.tape.trans h.tape, k.output.trans h.output, Nat.le_trans h.size k.size, fun i hi hne => (k.block i (Nat.lt_of_lt_of_le hi h.size) hne).trans (h.block i hi hne)⟩
theorem only_refl (w : World) (row : Option Nat) : w.grownBy w row := ⟨rfl, rfl, rfl, Nat.le_refl _, fun _ _ _ => rfl⟩
theorem below_only {B : Nat} {w w' : World} {g : Nat} (h : w.grownBy w' (some g)) (hB : B ≤ w.heap.size) (hg : B ≤ g) : Below B w w' :=
  ⟨h.os, h.tape, h.output, h.size, fun k hk => h.block k (by omega) (fun e => by injection e; omega)⟩
theorem below_app {B : Nat} {a w w' : World} {A : Option Addr} (h : Below B a w) (hg : w.grownBy w' (A.map (·.block))) (hB : B ≤ w.heap.size) (hA : ∀ ad, A = some ad → B ≤ ad.block) : Below B a w' :=
  h.grown hg hB fun k hk => by
    cases A with
    | none => simp at hk
    | some ad => simp at hk; rw [← hk]; exact hA ad rfl
end Go.Proofs.YtdnkignhenkamaaGreatDoor

/- -/
namespace Go.Proofs.YtdnkignhenkamaaGreatDoor
def memR (l : List (Int × Int)) (r : Int) : Prop := ∃ x ∈ l, x.1 ≤ r ∧ r ≤ x.2
def Nf : List (Int × Int) → Prop
  | [] => True
  | x :: r => x.1 ≤ x.2 ∧ (∀ y ∈ r, x.2 + 1 < y.1) ∧ Nf r
def NF (l : List (Int × Int)) : Prop := Nf l ∧ ∀ x ∈ l, 0 ≤ x.1 ∧ x.2 ≤ 1114111
theorem memR_nil (r : Int) : ¬ memR [] r := fun ⟨_, h, _⟩ => by simp at h
theorem memR_cons (x : Int × Int) (l : List (Int × Int)) (r : Int) : memR (x :: l) r ↔ (x.1 ≤ r ∧ r ≤ x.2) ∨ memR l r := by
  constructor
  · rintro ⟨y, hy, h⟩
    rcases List.mem_cons.1 hy with rfl | hy
    · exact .inl h
    · exact .inr ⟨y, hy, h⟩
  · rintro (h | ⟨y, hy, h⟩)
    · exact ⟨x, by simp, h⟩
    · exact ⟨y, by simp [hy], h⟩
theorem memR_append (a b : List (Int × Int)) (r : Int) : memR (a ++ b) r ↔ memR a r ∨ memR b r := by
  induction a with
  | nil => simp [memR_nil]
  | cons x a ih => rw [List.cons_append, memR_cons, memR_cons, ih, or_assoc]
theorem memR_perm {a b : List (Int × Int)} (h : a.Perm b) (r : Int) : memR a r ↔ memR b r :=
  ⟨fun ⟨x, hx, k⟩ => ⟨x, h.mem_iff.1 hx, k⟩, fun ⟨x, hx, k⟩ => ⟨x, h.mem_iff.2 hx, k⟩⟩
theorem Nf_append (a b : List (Int × Int)) : Nf (a ++ b) ↔ Nf a ∧ Nf b ∧ ∀ x ∈ a, ∀ y ∈ b, x.2 + 1 < y.1 := by
  induction a with
  | nil => simp [Nf]
  | cons x a ih =>
    simp only [List.cons_append, Nf, ih, List.mem_append, List.mem_cons]
    constructor
    · rintro ⟨h1, h2, h3, h4, h5⟩
      refine ⟨⟨h1, fun y hy => h2 y (.inl hy), h3⟩, h4, ?_⟩
      rintro z (rfl | hz) y hy
      · exact h2 y (.inr hy)
      · exact h5 z hz y hy
    · rintro ⟨⟨h1, h2, h3⟩, h4, h5⟩
      refine ⟨h1, ?_, h3, h4, fun z hz y hy => h5 z (.inr hz) y hy⟩
      rintro y (hy | hy)
      · exact h2 y hy
      · exact h5 x (.inl rfl) y hy
theorem Nf_le {l : List (Int × Int)} (h : Nf l) : ∀ x ∈ l, x.1 ≤ x.2 := by
  induction l with
  | nil => intro x hx; simp at hx
  | cons y l ih =>
    intro x hx
    rcases List.mem_cons.1 hx with rfl | hx
    · exact h.1
    · exact ih h.2.2 x hx
theorem Nf_ext : ∀ {a b : List (Int × Int)} (_ : Nf a) (_ : Nf b) (_ : ∀ r, memR a r ↔ memR b r), a = b
  | [], [], _, _, _ => rfl
  | [], y :: rb, _, hb, h => absurd ((h y.1).2 ⟨y, by simp, by omega, hb.1⟩) (memR_nil _)
  | x :: ra, [], ha, _, h => absurd ((h x.1).1 ⟨x, by simp, by omega, ha.1⟩) (memR_nil _)
  | x :: ra, y :: rb, ha, hb, h => by
    have e1 : y.1 ≤ x.1 := by
      obtain ⟨z, hz, h1, h2⟩ := (h x.1).1 ⟨x, by simp, by omega, ha.1⟩
      rcases List.mem_cons.1 hz with rfl | hz
      · exact h1
      · have := hb.2.1 z hz; have := hb.1; omega
    have e2 : x.1 ≤ y.1 := by
      obtain ⟨z, hz, h1, h2⟩ := (h y.1).2 ⟨y, by simp, by omega, hb.1⟩
      rcases List.mem_cons.1 hz with rfl | hz
      · exact h1
      · have := ha.2.1 z hz; have := ha.1; omega
    have e3 : y.2 ≤ x.2 := by
      rcases Int.lt_or_le x.2 y.2 with hlt | hle
      · obtain ⟨z, hz, h1, h2⟩ := (h (x.2 + 1)).2 ⟨y, by simp, by have := ha.1; omega, by omega⟩
        rcases List.mem_cons.1 hz with rfl | hz
        · omega
        · have := ha.2.1 z hz; omega
      · exact hle
    have e4 : x.2 ≤ y.2 := by
      rcases Int.lt_or_le y.2 x.2 with hlt | hle
      · obtain ⟨z, hz, h1, h2⟩ := (h (y.2 + 1)).1 ⟨x, by simp, by have := hb.1; omega, by omega⟩
        rcases List.mem_cons.1 hz with rfl | hz
        · omega
        · have := hb.2.1 z hz; omega
      · exact hle
    have hxy : x = y := Prod.ext (by omega) (by omega)
    subst hxy
    have : ra = rb := Nf_ext ha.2.2 hb.2.2 (fun r => by
      have hr := h r
      rw [memR_cons, memR_cons] at hr
      constructor
      · intro hm
        rcases hr.1 (.inr hm) with hx | hx
        · obtain ⟨z, hz, h1, _⟩ := hm
          have := ha.2.1 z hz; omega
        · exact hx
      · intro hm
        rcases hr.2 (.inr hm) with hx | hx
        · obtain ⟨z, hz, h1, _⟩ := hm
          have := hb.2.1 z hz; omega
        · exact hx)
    rw [this]
def mstep (out : List (Int × Int)) (x : Int × Int) : List (Int × Int) :=
  match out.getLast? with
  | some y => if x.1 ≤ y.2 + 1 then out.dropLast ++ [(y.1, max y.2 x.2)] else out ++ [x]
  | none => [x]
theorem mstep_nil (x : Int × Int) : mstep [] x = [x] := rfl
theorem mstep_snoc (o : List (Int × Int)) (y x : Int × Int) : mstep (o ++ [y]) x = if x.1 ≤ y.2 + 1 then o ++ [(y.1, max y.2 x.2)] else o ++ [y] ++ [x] := by
  simp [mstep]
def mergeR (s : List (Int × Int)) : List (Int × Int) := s.foldl mstep []
def Rise (s : List (Int × Int)) : Prop := s.Pairwise fun a b => a.1 ≤ b.1
theorem snoc_cases {α : Type} (l : List α) : l = [] ∨ ∃ o y, l = o ++ [y] := by
  rcases List.eq_nil_or_concat l with h | ⟨o, y, h⟩
  · exact .inl h
  · exact .inr ⟨o, y, by simpa using h⟩
theorem merge_go : ∀ (s out : List (Int × Int)) (_ : Nf out) (_ : Rise s) (_ : ∀ x ∈ s, x.1 ≤ x.2) (_ : ∀ x ∈ s, ∀ y ∈ out, y.1 ≤ x.1),
    Nf (s.foldl mstep out) ∧ ∀ r, memR (s.foldl mstep out) r ↔ memR out r ∨ memR s r
  | [], out, ho, _, _, _ => ⟨ho, fun r => by simp [memR_nil]⟩
  | x :: s, out, ho, hs, hle, hlt => by
    have hs' : Rise s := (List.pairwise_cons.1 hs).2
    have hx := (List.pairwise_cons.1 hs).1
    have hxle := hle x (by simp)
    have hle' : ∀ z ∈ s, z.1 ≤ z.2 := fun z hz => hle z (by simp [hz])
    have key : Nf (mstep out x) ∧ (∀ r, memR (mstep out x) r ↔ memR out r ∨ (x.1 ≤ r ∧ r ≤ x.2)) ∧ (∀ z ∈ s, ∀ y ∈ mstep out x, y.1 ≤ z.1) := by
      rcases snoc_cases out with rfl | ⟨o, y, rfl⟩
      · refine ⟨⟨hxle, by simp, trivial⟩, fun r => ?_, fun z hz y hy => ?_⟩
        · rw [mstep_nil, memR_cons]; simp [memR_nil]
        · rw [mstep_nil] at hy; simp at hy; subst hy; exact hx z hz
      · rw [mstep_snoc]
        rw [Nf_append] at ho
        have hy := hlt x (by simp) y (by simp)
        have hyle : y.1 ≤ y.2 := ho.2.1.1
        split
        · rename_i hc
          refine ⟨?_, fun r => ?_, fun z hz q hq => ?_⟩
          · rw [Nf_append]
            refine ⟨ho.1, ⟨by simp only; omega, by simp, trivial⟩, fun q hq p hp => ?_⟩
            simp at hp; subst hp
            exact ho.2.2 q hq y (by simp)
          · rw [memR_append, memR_append, memR_cons, memR_cons]
            simp only [memR_nil, or_false]
            constructor
            · rintro (h | h)
              · exact .inl (.inl h)
              · by_cases hr : r ≤ y.2
                · exact .inl (.inr (by omega))
                · exact .inr (by omega)
            · rintro ((h | h) | h)
              · exact .inl h
              · exact .inr (by omega)
              · exact .inr (by omega)
          · rcases List.mem_append.1 hq with hq | hq
            · exact hlt z (by simp [hz]) q (by simp [hq])
            · simp at hq; subst hq; exact hlt z (by simp [hz]) y (by simp)
        · rename_i hc
          refine ⟨?_, fun r => ?_, fun z hz q hq => ?_⟩
          · rw [Nf_append, Nf_append]
            refine ⟨ho, ⟨hxle, by simp, trivial⟩, fun q hq p hp => ?_⟩
            simp at hp; subst hp
            rcases List.mem_append.1 hq with hq | hq
            · have := ho.2.2 q hq y (by simp); omega
            · simp at hq; subst hq; omega
          · rw [memR_append, memR_cons]; simp [memR_nil]
          · rcases List.mem_append.1 hq with hq | hq
            · exact hlt z (by simp [hz]) q hq
            · simp at hq; subst hq; exact hx z hz
    obtain ⟨k1, k2, k3⟩ := key
    obtain ⟨g1, g2⟩ := merge_go s (mstep out x) k1 hs' hle' k3
    refine ⟨g1, fun r => ?_⟩
    rw [List.foldl_cons, g2, k2, memR_cons, or_assoc]
def clampR (r : Int × Int) : Int × Int := (max r.1 0, min r.2 1114111)
def keepR (l : List (Int × Int)) : List (Int × Int) := (l.map clampR).filter fun x => decide (x.1 ≤ x.2)
def normR (l : List (Int × Int)) : List (Int × Int) := mergeR ((keepR l).mergeSort fun a b => decide (a.1 ≤ b.1))
def hasP (l : List (Int × Int)) (r : Int) : Prop := 0 ≤ r ∧ r ≤ 1114111 ∧ memR l r
theorem keepR_le (l : List (Int × Int)) : ∀ x ∈ keepR l, x.1 ≤ x.2 ∧ 0 ≤ x.1 ∧ x.2 ≤ 1114111 := by
  intro x hx
  obtain ⟨h1, h2⟩ := List.mem_filter.1 hx
  obtain ⟨y, _, rfl⟩ := List.mem_map.1 h1
  simp only [decide_eq_true_eq] at h2
  simp only [clampR] at h2 ⊢
  omega
theorem memR_keepR (l : List (Int × Int)) (r : Int) : memR (keepR l) r ↔ hasP l r := by
  constructor
  · rintro ⟨x, hx, h⟩
    obtain ⟨h1, h2⟩ := List.mem_filter.1 hx
    obtain ⟨y, hy, rfl⟩ := List.mem_map.1 h1
    simp only [clampR] at h
    exact ⟨by omega, by omega, y, hy, by omega⟩
  · rintro ⟨h0, h1, y, hy, h⟩
    refine ⟨clampR y, List.mem_filter.2 ⟨List.mem_map.2 ⟨y, hy, rfl⟩, ?_⟩, ?_⟩
    · refine decide_eq_true ?_; show max y.1 0 ≤ min y.2 1114111; omega
    · show max y.1 0 ≤ r ∧ r ≤ min y.2 1114111; omega
theorem merge_of {s l : List (Int × Int)} (hp : s.Perm (keepR l)) (hs : Rise s) : Nf (mergeR s) ∧ ∀ r, memR (mergeR s) r ↔ hasP l r := by
  obtain ⟨h1, h2⟩ := merge_go s [] trivial hs (fun x hx => (keepR_le l x (hp.mem_iff.1 hx)).1) (fun _ _ y hy => by simp at hy)
  refine ⟨h1, fun r => ?_⟩
  rw [← memR_keepR, ← memR_perm hp]
  rw [show mergeR s = s.foldl mstep [] from rfl, h2]
  simp [memR_nil]
theorem sort_rise (l : List (Int × Int)) : Rise (l.mergeSort fun a b => decide (a.1 ≤ b.1)) := by
  have := List.pairwise_mergeSort (le := fun a b : Int × Int => decide (a.1 ≤ b.1)) (by simp; intros; omega) (by simp; intros; omega) l
  exact this.imp (by simp)
theorem normR_nf (l : List (Int × Int)) : Nf (normR l) := (merge_of (List.mergeSort_perm _ _) (sort_rise _)).1
theorem memR_normR (l : List (Int × Int)) (r : Int) : memR (normR l) r ↔ hasP l r := (merge_of (List.mergeSort_perm _ _) (sort_rise _)).2 r
theorem mergeR_eq {s l : List (Int × Int)} (hp : s.Perm (keepR l)) (hs : Rise s) : mergeR s = normR l :=
  Nf_ext (merge_of hp hs).1 (normR_nf l) fun r => ((merge_of hp hs).2 r).trans (memR_normR l r).symm
theorem merge_bd {s l : List (Int × Int)} (hp : s.Perm (keepR l)) (hs : Rise s) (k : Nat) : ∀ y ∈ (s.take k).foldl mstep [], 0 ≤ y.1 ∧ y.1 ≤ y.2 ∧ y.2 ≤ 1114111 := by
  have hk : ∀ x ∈ s.take k, x.1 ≤ x.2 ∧ 0 ≤ x.1 ∧ x.2 ≤ 1114111 := fun x hx => keepR_le l x (hp.mem_iff.1 (List.mem_of_mem_take hx))
  obtain ⟨h1, h2⟩ := merge_go (s.take k) [] trivial (List.Pairwise.sublist (List.take_sublist _ _) hs) (fun x hx => (hk x hx).1) (fun _ _ y hy => by simp at hy)
  intro y hy
  have hle := Nf_le h1 y hy
  obtain ⟨z, hz, _, _⟩ := ((h2 y.1).1 ⟨y, hy, by omega, hle⟩).resolve_left (memR_nil _)
  obtain ⟨q, hq, _, _⟩ := ((h2 y.2).1 ⟨y, hy, hle, by omega⟩).resolve_left (memR_nil _)
  have := hk z hz; have := hk q hq; omega
theorem merge_snoc {s : List (Int × Int)} {k : Nat} {x : Int × Int} (h : s[k]? = some x) : (s.take (k + 1)).foldl mstep [] = mstep ((s.take k).foldl mstep []) x := by
  rw [List.take_add_one, h]; simp
theorem NF_of {l : List (Int × Int)} (h : Nf l) (hb : ∀ r, memR l r → 0 ≤ r ∧ r ≤ 1114111) : NF l :=
  ⟨h, fun x hx => ⟨(hb x.1 ⟨x, hx, by omega, Nf_le h x hx⟩).1, (hb x.2 ⟨x, hx, Nf_le h x hx, by omega⟩).2⟩⟩
theorem normR_NF (l : List (Int × Int)) : NF (normR l) := NF_of (normR_nf l) fun r h => by have := (memR_normR l r).1 h; exact ⟨this.1, this.2.1⟩
theorem NF_mem {l : List (Int × Int)} (h : NF l) (r : Int) : hasP l r ↔ memR l r :=
  ⟨fun k => k.2.2, fun ⟨x, hx, k⟩ => by have := h.2 x hx; exact ⟨by omega, by omega, x, hx, k⟩⟩
theorem normR_of_NF {l : List (Int × Int)} (h : NF l) : normR l = l := Nf_ext (normR_nf l) h.1 fun r => (memR_normR l r).trans (NF_mem h r)
theorem hasP_normR (l : List (Int × Int)) (r : Int) : hasP (normR l) r ↔ hasP l r := (NF_mem (normR_NF l) r).trans (memR_normR l r)
def notGo : Int → List (Int × Int) → List (Int × Int)
  | next, [] => if next ≤ 1114111 then [(next, 1114111)] else []
  | next, x :: r => (if next < x.1 then [(next, x.1 - 1)] else []) ++ notGo (x.2 + 1) r
def notR (l : List (Int × Int)) : List (Int × Int) := notGo 0 (normR l)
theorem notGo_spec : ∀ (l : List (Int × Int)) (next : Int) (_ : NF l) (_ : 0 ≤ next) (_ : ∀ x ∈ l, next ≤ x.1),
    Nf (notGo next l) ∧ (∀ x ∈ notGo next l, next ≤ x.1) ∧ ∀ r, memR (notGo next l) r ↔ (next ≤ r ∧ r ≤ 1114111 ∧ ¬ memR l r)
  | [], next, _, h0, _ => by
    unfold notGo
    split
    · refine ⟨⟨by simp only; omega, by simp, trivial⟩, by simp, fun r => ?_⟩
      rw [memR_cons]; simp [memR_nil]
    · exact ⟨trivial, by simp, fun r => by simp [memR_nil]; omega⟩
  | x :: l, next, hn, h0, hx => by
    have hxb := hn.2 x (by simp)
    have hxl := hn.1.1
    obtain ⟨g1, g2, g3⟩ := notGo_spec l (x.2 + 1) ⟨hn.1.2.2, fun z hz => hn.2 z (by simp [hz])⟩ (by omega) (fun z hz => by have := hn.1.2.1 z hz; omega)
    have hx1 := hx x (by simp)
    unfold notGo
    refine ⟨?_, ?_, fun r => ?_⟩
    · rw [Nf_append]
      refine ⟨?_, g1, ?_⟩
      · split
        · exact ⟨by simp only; omega, by simp, trivial⟩
        · trivial
      · intro q hq p hp
        have := g2 p hp
        split at hq
        · simp at hq; subst hq; simp only; omega
        · simp at hq
    · intro q hq
      rcases List.mem_append.1 hq with hq | hq
      · split at hq
        · simp at hq; subst hq; simp
        · simp at hq
      · have := g2 q hq; omega
    · rw [memR_append, g3, memR_cons]
      have hl : ∀ q, memR l q → x.2 + 1 < q := fun q ⟨z, hz, h1, _⟩ => by have := hn.1.2.1 z hz; omega
      split
      · rw [memR_cons]
        simp only [memR_nil, or_false, not_or]
        constructor
        · rintro (h | ⟨h1, h2, h3⟩)
          · refine ⟨by omega, by omega, by omega, fun hm => ?_⟩
            have := hl r hm; omega
          · exact ⟨by omega, h2, by omega, h3⟩
        · rintro ⟨h1, h2, h3, h4⟩
          by_cases hr : r < x.1
          · exact .inl (by omega)
          · exact .inr ⟨by omega, h2, h4⟩
      · simp only [memR_nil, false_or, not_or]
        constructor
        · rintro ⟨h1, h2, h3⟩; exact ⟨by omega, h2, by omega, h3⟩
        · rintro ⟨h1, h2, h3, h4⟩; exact ⟨by omega, h2, h4⟩
theorem notR_spec (l : List (Int × Int)) : Nf (notR l) ∧ ∀ r, memR (notR l) r ↔ (0 ≤ r ∧ r ≤ 1114111 ∧ ¬ hasP l r) := by
  obtain ⟨h1, _, h3⟩ := notGo_spec (normR l) 0 (normR_NF l) (by omega) (fun x hx => ((normR_NF l).2 x hx).1)
  exact ⟨h1, fun r => by rw [← memR_normR]; exact h3 r⟩
theorem notR_NF (l : List (Int × Int)) : NF (notR l) := NF_of (notR_spec l).1 fun r h => by have := ((notR_spec l).2 r).1 h; exact ⟨this.1, this.2.1⟩
theorem hasP_notR (l : List (Int × Int)) (r : Int) : hasP (notR l) r ↔ (0 ≤ r ∧ r ≤ 1114111 ∧ ¬ hasP l r) := (NF_mem (notR_NF l) r).trans ((notR_spec l).2 r)
def orR (a b : List (Int × Int)) : List (Int × Int) := normR (a ++ b)
theorem hasP_orR (a b : List (Int × Int)) (r : Int) : hasP (orR a b) r ↔ hasP a r ∨ hasP b r := by
  rw [orR, hasP_normR]; unfold hasP; rw [memR_append]
  constructor
  · rintro ⟨h0, h1, h | h⟩
    · exact .inl ⟨h0, h1, h⟩
    · exact .inr ⟨h0, h1, h⟩
  · rintro (⟨h0, h1, h⟩ | ⟨h0, h1, h⟩)
    · exact ⟨h0, h1, .inl h⟩
    · exact ⟨h0, h1, .inr h⟩
theorem orR_NF (a b : List (Int × Int)) : NF (orR a b) := normR_NF _
theorem NF_len : ∀ {l : List (Int × Int)} {b : Int} (_ : Nf l) (_ : ∀ x ∈ l, b ≤ x.1 ∧ x.2 ≤ 1114111) (_ : b ≤ 1114113), b + 2 * (l.length : Int) ≤ 1114113
  | [], b, _, _, h => by simp; omega
  | x :: l, b, hn, hb, _ => by
    have hx := hb x (by simp)
    have := hn.1
    have ih := NF_len (l := l) (b := x.2 + 2) hn.2.2 (fun z hz => ⟨by have := hn.2.1 z hz; omega, (hb z (by simp [hz])).2⟩) (by omega)
    simp only [List.length_cons]; omega
theorem NF.len {l : List (Int × Int)} (h : NF l) : l.length ≤ 557056 := by have := NF_len (b := 0) h.1 h.2 (by omega); omega
def hasB (l : List (Int × Int)) (r : Int) : Bool := decide (0 ≤ r) && decide (r ≤ 1114111) && l.any fun x => decide (x.1 ≤ r) && decide (r ≤ x.2)
theorem hasB_iff (l : List (Int × Int)) (r : Int) : hasB l r = true ↔ hasP l r := by
  simp only [hasB, hasP, memR, Bool.and_eq_true, decide_eq_true_eq, List.any_eq_true]
  constructor
  · rintro ⟨⟨h0, h1⟩, x, hx, h⟩; exact ⟨h0, h1, x, hx, h⟩
  · rintro ⟨h0, h1, x, hx, h⟩; exact ⟨⟨h0, h1⟩, x, hx, h⟩
theorem hasB_true {l : List (Int × Int)} {r : Int} (h : hasP l r) : hasB l r = true := (hasB_iff l r).2 h
theorem hasB_false {l : List (Int × Int)} {r : Int} (h : ¬ hasP l r) : hasB l r = false := by
  cases hb : hasB l r
  · rfl
  · exact absurd ((hasB_iff l r).1 hb) h
theorem notGo_cons (next : Int) (x : Int × Int) (r : List (Int × Int)) : notGo next (x :: r) = (if next < x.1 then [(next, x.1 - 1)] else []) ++ notGo (x.2 + 1) r := rfl
theorem notGo_nil (next : Int) : notGo next [] = if next ≤ 1114111 then [(next, 1114111)] else [] := rfl
theorem drop_cons_of {α : Type} {l : List α} {k : Nat} {x : α} (h : l[k]? = some x) : l.drop k = x :: l.drop (k + 1) := by
  obtain ⟨hk, rfl⟩ := List.getElem?_eq_some_iff.1 h
  exact List.drop_eq_getElem_cons hk
theorem Nf_take {l : List (Int × Int)} (h : Nf l) (k : Nat) : Nf (l.take k) := by
  have := (Nf_append (l.take k) (l.drop k)).1 (by rw [List.take_append_drop]; exact h)
  exact this.1
theorem NF.take {l : List (Int × Int)} (h : NF l) (k : Nat) : NF (l.take k) := ⟨Nf_take h.1 k, fun x hx => h.2 x (List.mem_of_mem_take hx)⟩
def atGo : List (Int × Int) → Int → Int × Bool
  | [], _ => (0, false)
  | x :: r, i => if i < x.2 - x.1 + 1 then (x.1 + i, true) else atGo r (i - (x.2 - x.1 + 1))
def atR (l : List (Int × Int)) (i : Int) : Int × Bool := if i < 0 then (0, false) else atGo (normR l) i
end Go.Proofs.YtdnkignhenkamaaGreatDoor

/- -/
namespace Go.Proofs.YtdnkignhenkamaaGreatDoor
open Go.RowKit
theorem infoR : (Tryz.prog.info? 110).map (fun i => (i.zero, i.size, i.bytes)) = some (some (.agg #[.int .i32 0, .int .i32 0]), 2, 8) := by kernel_rfl
theorem infoInt : (Tryz.prog.info? 3).map (fun i => (i.zero, i.size, i.bytes)) = some (some (.int .i64 0), 1, 8) := by kernel_rfl
theorem encR_ok (l : List (Int × Int)) : ∀ y ∈ l.map encR, y.length = 2 ∧ ∀ u ∈ y, u.oneCell' = true := by
  intro y hy; obtain ⟨r, _, rfl⟩ := List.mem_map.1 hy
  exact ⟨rfl, by simp [encR, Value.oneCell']⟩
def eqRB (a b c d : Int) : Bool := decide ((a, b) = (c, d))
theorem eqlR (a b c d : Int) (w : World) : (binOp .eql 110 (.agg #[.int .i32 a, .int .i32 b]) (.agg #[.int .i32 c, .int .i32 d])).run Tryz.prog w = .ok (.bool (eqRB a b c d)) w := by
  have hS : Tryz.prog.underlying 110 = some (.struct (Tryz.prog.fieldsOf 110)) := by kernel_rfl
  have hp : Tryz.prog.stoodInHeld 110 = false := by kernel_rfl
  have u3 := Tryz.underlying21
  have a3 := Tryz.isAgg21
  have z3 := Tryz.sizeOf21
  rw [run_eql_struct, show (10000 : Nat) = 9999 + 1 from rfl, run_equalIn_agg w 9999 _ _ _ hS hp]
  simp only [Program.fieldsOf, Tryz.underlying110]
  go_simp
  by_cases h1 : a = c <;> by_cases h2 : b = d <;> simp [eqRB, h1, h2]
theorem neqR (a b c d : Int) (w : World) : (binOp .neq 110 (.agg #[.int .i32 a, .int .i32 b]) (.agg #[.int .i32 c, .int .i32 d])).run Tryz.prog w = .ok (.bool (!eqRB a b c d)) w := by
  have h := eqlR a b c d w
  rw [run_eql_struct] at h
  rw [run_neq_struct]
  cases hq : (Op.equalIn 10000 110 (.agg #[.int .i32 a, .int .i32 b]) (.agg #[.int .i32 c, .int .i32 d])).run Tryz.prog w with
  | ok b' w' => rw [hq] at h; simp at h; simp [h]
  | _ => rw [hq] at h; simp at h
theorem index_at (s : ByteArray) (i : Int) (p : Nat) (hi : i = p) (hp : p < s.size) (W : World) : (Instr.index 9 (.string s) (.int .i64 i)).run Tryz.prog W = .ok (.int .u8 ((s[p]'hp).toNat : Int)) W := by
  subst hi
  rw [run_index_string _ _ _ _ _ Tryz.underlying9]
  simp [hp]
theorem quiet_left {P : Program} {f : FuncId} {args : Array Value} {w : World} {n : Nat} {v : Value}
    (h : Calls P f args (w.drewN n) fun e w' => e = .returned v ∧ w.drewN n = w') : Calls P f args (w.drewN n) fun e w'' => e = .returned v ∧ ∃ m, w'' = w.drewN m :=
  h.mono fun _ _ ⟨he, hm⟩ => ⟨he, n, hm.symm⟩
end Go.Proofs.YtdnkignhenkamaaGreatDoor

/- -/
namespace Go.Proofs.YtdnkignhenkamaaGreatDoor
def ind (l : List (Int × Int)) (i : Nat) : Int := if memB l i then 1 else 0
where memB (l : List (Int × Int)) (i : Nat) : Bool := l.any fun x => decide (x.1 ≤ (i : Int)) && decide ((i : Int) ≤ x.2)
end Go.Proofs.YtdnkignhenkamaaGreatDoor

/- -/
namespace Go.Proofs.YtdnkignhenkamaaGreatDoor
open Go.RowKit
attribute [local go_sem ↓] neqR eqlR
end Go.Proofs.YtdnkignhenkamaaGreatDoor

/- -/
namespace Go.Proofs.YtdnkignhenkamaaGreatDoor
open Go.RowKit Go.Sort
section
variable {α : Type} [Inhabited α] {enc : α → List Value} {k : Nat} {w : World} {base : Nat} {e : TypeId} {g n c : Nat} {d : Array α}
theorem own_holdsK (hk : ∀ x, (enc x).length = k) (hpos : 0 < k) (h : Own w base e k (some ⟨g, 0, none⟩) n c (d.toList.map enc)) : HoldsK enc k w g 0 d := by
  intro j hj
  rw [size_flatK] at hj
  have hq : j / k < d.size := (Nat.div_lt_iff_lt_mul hpos).2 hj
  have hr : j % k < (enc d[j / k]!).length := by rw [hk]; exact Nat.mod_lt _ hpos
  refine ⟨?_, ?_⟩
  · rw [id, get_flatK enc k d j hj]
    have h1 := h.cell (k := j / k) (j := j % k) (x := enc d[j / k]!) (u := (enc d[j / k]!)[j % k]!) (by rw [List.getElem?_map]; simp [hq]) (by rw [List.getElem?_eq_getElem hr, getElem!_pos (enc d[j / k]!) (j % k) hr])
    rw [show 0 + j = j / k * k + j % k by rw [Nat.zero_add, Nat.div_add_mod']]
    exact h1
  · exact h.frozen _
theorem flat_take (hk : ∀ x, (enc x).length = k) (hpos : 0 < k) {d' : Array α} {cur : Array Value} (hc : d'.size * k ≤ cur.size) :
    ((putCells id 0 (flatK enc k d') cur).toList.take (d'.size * k)) = (d'.toList.map enc).flatten := by
  apply List.ext_getElem?
  intro t
  have hall : ∀ x ∈ d'.toList.map enc, x.length = k := fun x hx => by obtain ⟨y, _, rfl⟩ := List.mem_map.1 hx; exact hk y
  by_cases ht : t < d'.size * k
  · have hq : t / k < d'.size := (Nat.div_lt_iff_lt_mul hpos).2 ht
    have hr : t % k < (enc d'[t / k]!).length := by rw [hk]; exact Nat.mod_lt _ hpos
    have h1 := flatten_get hall (k := t / k) (j := t % k) (x := enc d'[t / k]!) (u := (enc d'[t / k]!)[t % k]!) (by rw [List.getElem?_map]; simp [hq]) (by rw [List.getElem?_eq_getElem hr, getElem!_pos (enc d'[t / k]!) (t % k) hr])
    rw [Nat.div_add_mod'] at h1
    rw [h1, List.getElem?_take, if_pos ht, Array.getElem?_toList, putCells, Array.getElem?_mapIdx, Array.getElem?_eq_getElem (by omega)]
    have h2 := get_flatK enc k d' t ht
    simp only [Option.map_some, Nat.zero_le, true_and, Nat.zero_add, size_flatK, ht, if_true, id, Nat.sub_zero]
    rw [h2]
  · rw [List.getElem?_take, if_neg ht, List.getElem?_eq_none]
    rw [flatten_len hall]; simp; omega
theorem own_sorted (hk : ∀ x, (enc x).length = k) (hpos : 0 < k) (h : Own w base e k (some ⟨g, 0, none⟩) n c (d.toList.map enc)) {d' : Array α} (hs : d'.size = d.size) (m : Nat) (os : Array Obj) :
    Own (sortWorldK enc k w g 0 m d' os) base e k (some ⟨g, 0, none⟩) n c (d'.toList.map enc) ∧ w.grownBy (sortWorldK enc k w g 0 m d' os) (some g) := by
  have hn : d.size = n := by have := h.1; simpa using this
  rcases h.2.2.2 with ⟨h0, _⟩ | ⟨g', cap, cur, hv, hb, hh, h1, h2, h3, h4⟩
  · cases h0
  · injection hv with hA _ hc
    injection hA with hA
    injection hA with hA
    subst hA; subst hc
    have hlt : g < w.heap.size := (Array.getElem?_eq_some_iff.1 hh).1
    refine ⟨⟨by simp [hs, hn], fun x hx => by obtain ⟨y, _, rfl⟩ := List.mem_map.1 hx; exact hk y, ?_, .inr ⟨g, c, putCells id 0 (flatK enc k d') cur, rfl, hb, ?_, h1, h2, ?_, ?_⟩⟩, ?_⟩
    · rw [flatten_len (s := k) (fun x hx => by obtain ⟨y, _, rfl⟩ := List.mem_map.1 hx; exact hk y)]; simp [hs, hn]
    · show (grow _ os).heap[g]? = _
      rw [heap_grow_old _ _ (by simp [putRowK, putRow, mapBlock]; exact hlt)]
      simp only [putRowK, putRow, mapBlock, Array.getElem?_modify, if_true]
      rw [show (Go.Sort.ahead w m).heap = w.heap from rfl, hh]; rfl
    · simp [putCells, h3]
    · have := flat_take (d' := d') (cur := cur) hk hpos (by rw [h3, hs, hn]; exact Nat.mul_le_mul_right k h1)
      rw [hs, hn] at this
      exact this
    · refine ⟨rfl, rfl, rfl, by simp [sortWorldK, putRowK, putRow, mapBlock], fun i hi hne => ?_⟩
      show (grow _ os).heap[i]? = _
      rw [heap_grow_old _ _ (by simp [putRowK, putRow, mapBlock]; exact hi)]
      simp only [putRowK, putRow, mapBlock, Array.getElem?_modify]
      rw [if_neg (fun e => hne (by rw [e]))]; rfl
end
end Go.Proofs.YtdnkignhenkamaaGreatDoor

/- -/
namespace Go.Proofs.YtdnkignhenkamaaGreatDoor
open Go.ChangeShapes Go.WideShapes Go.ChangeAt Go.RowKit
section
variable {H : Type} {enc : TypeId × Value → H} {P : Program}
theorem trodAll_stays {W W' : World} {sp' : Nat → Bool} (hl : laidOutB P = true) : ∀ {ts : List TypeId} {vs : List Value} {ds : List (DataW H)} {ps : List MemPlace}, (∀ t ∈ ts, P.readableRec t = true ∧ t < P.types.size) →
    DataW.TrodAll enc P W 0 (fun _ => true) true ts vs ds ps → (∀ p ∈ ps, W.sameAt W' p) → (∀ p ∈ ps, sp' p.block = true) → DataW.TrodAll enc P W' 0 sp' true ts vs ds ps
  | [], vs, ds, ps, _, h, _, _ => by
    obtain ⟨rfl, rfl, rfl⟩ := trodAll_nil h
    exact trodAll_mk0
  | t :: ts, vs, ds, ps, ht, h, h1, h2 => by
    obtain ⟨v, vs', d, ds', p, q, rfl, rfl, rfl, h0, hr⟩ := trodAll_cons h
    exact trodAll_cons_mk (WideElems.Trod_stays hl (ht t (by simp)).1 (ht t (by simp)).2 h0 (fun x hx => h1 x (by simp [hx])) (fun x hx => h2 x (by simp [hx])))
      (trodAll_stays hl (fun u hu => ht u (by simp [hu])) hr (fun x hx => h1 x (by simp [hx])) (fun x hx => h2 x (by simp [hx])))
theorem post_law {f : Func} {s : ChangeSpec} {apart fresh handsOn again : Bool} {W W' : World} {args : Array Value} {ds gs : List (DataW H)} {before : List MemPlace} {tb : TypeId}
    (hl : laidOutB P = true) (hps : (f.params.toList.all fun t => P.readableRec t && decide (t < P.types.size)) = true) (hres : f.resultTypes = #[tb]) (htb : P.underlying tb = some .bool) (hv : s.vars = [])
    (hfn : ∀ (gs' : List (DataW H)), gs' = [] → s.fn H (ds ++ gs') = { results := [.lit (.bool true)], args := ds })
    (hW : DataW.Whole enc P f.params.toList s.vars apart W args.toList ds gs before) (hb : Below W.heap.size W W') :
    s.post enc P f apart fresh handsOn again W args (.bool true) W' := by
  have hlt : ∀ p ∈ before, p.block < W.heap.size := fun p hp => hW.lt p hp
  have hW' := hW
  obtain ⟨p, q, hA, hV, rfl, hfz, hnd⟩ := hW'
  have hA' : DataW.TrodAll enc P W 0 (fun _ => true) true f.params.toList args.toList ds p := hA
  rw [hv] at hV
  obtain ⟨rfl, rfl⟩ := trodVars_none hV
  have hpr : ∀ t ∈ f.params.toList, P.readableRec t = true ∧ t < P.types.size := fun t ht => by
    have := List.all_eq_true.1 hps t ht
    simpa using this
  have hres' : ∀ (b : Nat) (sp : Nat → Bool) (hd : Bool), DataW.TrodAll enc P W' b sp hd f.resultTypes.toList ((Value.bool true).resultList f.resultTypes.size) (s.fn H (ds ++ [])).results [] := fun b sp hd => by
    rw [hres, hfn [] rfl]
    exact trodAll_cons_mk (shut_bool htb _) trodAll_mk0
  have hargs : ∀ sp : Nat → Bool, (∀ x ∈ p ++ [], sp x.block = true) → DataW.TrodAll enc P W' 0 sp true f.params.toList args.toList (s.fn H (ds ++ [])).args p := fun sp hsp => by
    rw [hfn [] rfl]
    exact trodAll_stays hl hpr hA' (fun x hx => hb.same (hlt x (by simp [hx]))) (fun x hx => hsp x (by simp [hx]))
  have hvars : ∀ sp : Nat → Bool, DataW.TrodVars enc P W' sp s.vars (s.fn H (ds ++ [])).vars [] := fun sp => by
    rw [hv, hfn [] rfl]
    exact rfl
  have hold : ∀ x ∈ p ++ [], (fun b => decide (b < W.heap.size)) x.block = true := fun x hx => by simpa using hlt x hx
  refine ⟨ds, [], p ++ [], [], p, [], hW, hres' _ _ _, hargs _ hold, hvars _, World.keptBut_mono (fun x hx => ⟨hx, ?_⟩) (hb.frame (· ∈ p ++ [])), fun _ => ?_⟩
  · simpa using hx
  · refine ⟨?_, _, _, ([] ++ p) ++ [], ⟨[] ++ p, [], trodAll_append (hargs _ (fun _ _ => rfl)) (hres' _ _ _), hvars _, rfl, ?_, ?_⟩, ?_⟩
    · exact ok_one hres rfl (okWide_bool_mk htb _)
    · intro b off hp
      have hin : MemPlace.cell b off ∈ p ++ [] := by simpa using hp
      rw [hb.frozen (hlt _ hin)]
      exact hfz b off hin
    · intro ha
      simpa using hnd ha
    · intro x hx _
      simpa using hx
end
end Go.Proofs.YtdnkignhenkamaaGreatDoor

/- -/
namespace Go.Proofs.YtdnkignhenkamaaGreatDoor
open Go.RowKit
section
variable {P : Program} {F : Fence} {n : Nat}
theorem rngH {α : Type} {g : Operand} {ps : Array Tmp} {assign body : Code} {Q : Exit → Act → World → Prop} {a : Act} {w : World}
    (hro : F.round = none) (h1 : 1 ≤ n) {gf : Nat} {lb : Array Value} (hg : a.eval g = .func (.func gf) #[] lb) (hFg : F.fn gf) (eg : ∀ args w, (callFunc gf args).run P w = .ok (.enter gf args) w)
    {encs : α → Array Value} {Kp : World → World → Prop} {S Sp : List α → Prop} {N : Nat} {w0 : World} (hseq : SeqStopsK F (n - 1) P gf lb encs Kp S Sp N w0)
    (hKt : ∀ {A B C : World}, Kp A B → Kp B C → Kp A C) (hKb : ∀ (W : World) (l : Nat) (o o' : Obj), w.heap.size ≤ l → W.heap[l]? = some o → o.isCells = false → o.isWalk = false → Kp W (W.putObj l o')) (hb0 : Below w0.heap.size w0 w) (hps : ∀ x, (encs x).size = ps.size) (hKr : ∀ W, Kp W W)
    (I : List α → World → Prop) (Ix : Code → List α → World → Prop) (hI : OwnFrom w.heap.size I) (hIx : ∀ c, OwnFrom w.heap.size (Ix c)) (h0 : I [] w) (f : Array Value → α → Array Value)
    (hassign : ∀ (l : Nat) (x : α) (W : World) (K : Act → World → Prop), K { tmps := f a.tmps x, defers := [] } W →
      assign.wpIn (F.inRound l) (n - 1 - 1) P (Exit.then K (fun _ _ _ => False)) { tmps := (ps.zip (encs x)).foldl (fun t (p, v) => t.setIfInBounds p v) a.tmps, defers := [] } W)
    (hbody : ∀ (l : Nat) (pre : List α) (x : α) (W : World), w.heap.size ≤ l → (∃ r, W.heap[l]? = some (.loop r)) → I pre W → pre.length < N → body.wpIn (F.inRound l) (n - 1 - 1) P (ownPostG w.heap.size Kp I Ix (pre ++ [x]) W) { tmps := f a.tmps x, defers := [] } W)
    (hdone : ∀ (D : Nat) (xs : List α) (W : World), w.heap.size ≤ D → S xs → I xs W → W.heap[D]? = some (.deferred (some [])) → Q .normal { a with defers := { target := .collected D, args := #[] } :: a.defers } W)
    (hstop : ∀ (D : Nat) (c : Code) (pre : List α) (W : World), w.heap.size ≤ D → Sp pre → Ix c pre W → W.heap[D]? = some (.deferred (some [])) → c.wpIn F n P Q { a with defers := { target := .collected D, args := #[] } :: a.defers } W) :
    (Code.rangeFunc g ps assign body).wpIn F n P Q a w :=
  wpIn_rangeFunc_ownH hro h1 hg hFg eg hseq (fun h k => hKt h k) hKb hb0 hps I Ix hI hIx h0 (fun x a' _ => a' = { tmps := f a.tmps x, defers := [] }) (fun _ _ _ _ _ _ hs _ _ => hs)
    (fun l _ x W K hi hK => hassign l x W K (hK _ _ (KeepsFrom.refl _ _) (hKr W) hi rfl)) (fun l pre x a' W hl hr hi e => by subst e; exact hbody l pre x W hl hr hi) hdone hstop
theorem rngN {α : Type} {g : Operand} {ps : Array Tmp} {assign body : Code} {Q : Exit → Act → World → Prop} {a : Act} {w : World}
    {l₀ : Nat} {r₀ : Loop} (hro : F.round = some l₀) (hl₀ : w.heap[l₀]? = some (.loop r₀)) (h1 : 1 ≤ n) {gf : Nat} {lb : Array Value} (hg : a.eval g = .func (.func gf) #[] lb) (hFg : F.fn gf) (eg : ∀ args w, (callFunc gf args).run P w = .ok (.enter gf args) w)
    {encs : α → Array Value} {Kp : World → World → Prop} {S Sp : List α → Prop} {N : Nat} {w0 : World} (hseq : SeqStopsK F (n - 1) P gf lb encs Kp S Sp N w0)
    (hKt : ∀ {A B C : World}, Kp A B → Kp B C → Kp A C) (hKb : ∀ (W : World) (l : Nat) (o o' : Obj), w.heap.size ≤ l → W.heap[l]? = some o → o.isCells = false → o.isWalk = false → Kp W (W.putObj l o')) (hb0 : Below w0.heap.size w0 w) (hps : ∀ x, (encs x).size = ps.size) (hKr : ∀ W, Kp W W)
    (I : List α → World → Prop) (Ix : Code → List α → World → Prop) (hI : OwnFrom w.heap.size I) (hIx : ∀ c, OwnFrom w.heap.size (Ix c)) (h0 : I [] w) (f : Array Value → α → Array Value)
    (hassign : ∀ (l : Nat) (x : α) (W : World) (K : Act → World → Prop), K { tmps := f a.tmps x, defers := [] } W →
      assign.wpIn (F.inRound l) (n - 1 - 1) P (Exit.then K (fun _ _ _ => False)) { tmps := (ps.zip (encs x)).foldl (fun t (p, v) => t.setIfInBounds p v) a.tmps, defers := [] } W)
    (hbody : ∀ (l : Nat) (pre : List α) (x : α) (W : World), w.heap.size ≤ l → (∃ r, W.heap[l]? = some (.loop r)) → I pre W → pre.length < N → body.wpIn (F.inRound l) (n - 1 - 1) P (ownPostG w.heap.size Kp I Ix (pre ++ [x]) W) { tmps := f a.tmps x, defers := [] } W)
    (hdone : ∀ (xs : List α) (W : World), S xs → I xs W → Q .normal a W)
    (hstop : ∀ (c : Code) (pre : List α) (W : World), Sp pre → Ix c pre W → c.wpIn F n P Q a W) :
    (Code.rangeFunc g ps assign body).wpIn F n P Q a w :=
  wpIn_rangeFunc_ownN hro hl₀ h1 hg hFg eg hseq (fun h k => hKt h k) hKb hb0 hps I Ix hI hIx h0 (fun x a' _ => a' = { tmps := f a.tmps x, defers := [] }) (fun _ _ _ _ _ _ hs _ _ => hs)
    (fun l _ x W K hi hK => hassign l x W K (hK _ _ (KeepsFrom.refl _ _) (hKr W) hi rfl)) (fun l pre x a' W hl hr hi e => by subst e; exact hbody l pre x W hl hr hi) hdone hstop
end
end Go.Proofs.YtdnkignhenkamaaGreatDoor

/- -/
namespace Go.Proofs.YtdnkignhenkamaaGreatDoor
open Go.RowKit
section
variable {P : Program}
end
end Go.Proofs.YtdnkignhenkamaaGreatDoor

/- -/
namespace Go.Proofs.YtdnkignhenkamaaGreatDoor
open Go.RowKit
section
variable {P : Program} {F : Fence} {n : Nat} {α : Type}
def SeqC (F : Fence) (n : Nat) (P : Program) (g : Nat) (lb : Array Value) (encs : α → Array Value) (Kp : World → World → Prop) (S Sp : List α → Prop) (N : Nat) (w : World) : Prop :=
  ∀ (l : Nat) (J Jx : List α → World → Prop) (W : World), Below w.heap.size w W → OwnFrom W.heap.size J → OwnFrom W.heap.size Jx →
    (∀ pre x W1, J pre W1 → pre.length < N → YieldAt F (n - 1) P l (encs x) W1 fun e W' => (e = .returned (.bool true) ∧ J (pre ++ [x]) W' ∧ Kp W1 W' ∧ KeepsFrom W.heap.size W1 W') ∨ (e = .returned (.bool false) ∧ Jx (pre ++ [x]) W' ∧ KeepsFrom W.heap.size W1 W')) →
    J [] W → CallsIn F n P g (#[.func (.yield l) #[] #[]] ++ lb) W fun e W' => (∃ v, e = .returned v) ∧ ((∃ xs, S xs ∧ J xs W') ∨ (∃ pre, Sp pre ∧ Jx pre W'))
theorem SeqC.inRound {g : Nat} {lb : Array Value} {encs : α → Array Value} {Kp : World → World → Prop} {S Sp : List α → Prop} {N : Nat} {w : World} (l : Nat) (h : SeqC F n P g lb encs Kp S Sp N w) : SeqC (F.inRound l) n P g lb encs Kp S Sp N w := h
variable {encs : α → Array Value} {Kp : World → World → Prop} {I : List α → World → Prop} {Ix : Code → List α → World → Prop} {ps : Array Tmp} {assign body : Code}
variable {g : Operand} {Q : Exit → Act → World → Prop} {a : Act} {w : World}
end
end Go.Proofs.YtdnkignhenkamaaGreatDoor

/- -/
namespace Go.Proofs.YtdnkignhenkamaaGreatDoor
open Go Go.RowKit
section
variable {P : Program} {Q : Exit → Act → World → Prop} {l n : Nat}
end
end Go.Proofs.YtdnkignhenkamaaGreatDoor

/- -/
namespace Go.Proofs.YtdnkignhenkamaaGreatDoor
open Go Go.RowKit
section
variable {P : Program} {Q : Exit → Act → World → Prop} {md : Region.Mode}
def tailQ (N : Act → World → Prop) (Q : Exit → Act → World → Prop) : Exit → Act → World → Prop
  | .normal, a, w => N a w
  | e, a, w => Q e a w
theorem wp_tailQ {N : Act → World → Prop} {o : Oper} {a : Act} {w : World} {K : Act → World → Prop} : Oper.wp P o a w K (tailQ N Q) = Oper.wp P o a w K Q := by
  unfold Oper.wp
  generalize (execOp a.eval o).run P w = r
  cases r with
  | ok n w' => cases n <;> simp only [Oper.upon] <;> rfl
  | halt x w' => cases x <;> rfl
theorem lets_tailQ {N : Act → World → Prop} : LetsOut (tailQ N Q) = LetsOut Q := rfl
def lastSink (md : Region.Mode) (l : List Oper) : Bool :=
  (List.range (l.length - 1)).all fun i => (List.range l.length).any fun j => decide (i < j) && ((l[j]?).map fun o => o.after.any fun e => Region.binds md e && e.on == i).getD false
def lastDown (md : Region.Mode) (l : List Oper) : Bool :=
  (List.range l.length).all fun j => ((l[j]?).map fun o => o.guard.isNone && o.after.all fun e => !Region.binds md e || decide (e.on < j)).getD true
theorem lastSink_spec {l : List Oper} (h : lastSink md l = true) {i : Nat} (hi : i < l.length - 1) : ∃ j o, i < j ∧ l[j]? = some o ∧ ∃ e ∈ o.after, Region.binds md e = true ∧ e.on = i := by
  unfold lastSink at h
  rw [List.all_eq_true] at h
  have h1 := h i (List.mem_range.2 hi)
  rw [List.any_eq_true] at h1
  obtain ⟨j, _, h2⟩ := h1
  rw [Bool.and_eq_true, decide_eq_true_eq] at h2
  obtain ⟨h3, h4⟩ := h2
  cases ho : l[j]? with
  | none => rw [ho] at h4; cases h4
  | some o =>
    rw [ho] at h4
    simp only [Option.map_some, Option.getD_some, Array.any_eq_true] at h4
    obtain ⟨k, hk, h5⟩ := h4
    simp only [Bool.and_eq_true, beq_iff_eq] at h5
    exact ⟨j, o, h3, ho, _, Array.getElem_mem hk, h5.1, h5.2⟩
theorem lastDown_spec {l : List Oper} (h : lastDown md l = true) {j : Nat} {o : Oper} (hj : l[j]? = some o) : o.guard = none ∧ ∀ e ∈ o.after, Region.binds md e = true → e.on < j := by
  unfold lastDown at h
  rw [List.all_eq_true] at h
  have h1 := h j (List.mem_range.2 (List.getElem?_eq_some_iff.1 hj).1)
  rw [hj] at h1
  simp only [Option.map_some, Option.getD_some, Bool.and_eq_true, Option.isNone_iff_eq_none] at h1
  refine ⟨h1.1, fun e he hb => ?_⟩
  have h2 := Array.all_eq_true_iff_forall_mem.1 h1.2 e he
  rw [hb] at h2
  simpa using h2
structure SameHead (md : Region.Mode) (l : List Oper) (L L' : Array Bool) : Prop where
  size : L.size = l.length
  size' : L'.size = l.length - 1
  same : ∀ i, i < l.length - 1 → ∀ d, L.getD i d = L'.getD i d
  inv : ∀ (j : Nat) (o : Oper), l[j]? = some o → L.getD j false = true → ∀ e ∈ o.after, Region.binds md e = true → L.getD e.on false = true
  last : L.getD (l.length - 1) false = false
theorem getD_any {L : Array Bool} {i : Nat} (h : i < L.size) (d d' : Bool) : L.getD i d = L.getD i d' := by simp [h]
theorem head_get {l : List Oper} {i : Nat} (h : i < l.length - 1) : (l.dropLast.toArray)[i]? = l[i]? := by
  rw [List.getElem?_toArray, List.getElem?_dropLast, if_pos h]
theorem SameHead.ready {l : List Oper} {L L' : Array Bool} (h : SameHead md l L L') (hd : lastDown md l = true) {i : Nat} (hi : i < l.length - 1) : i ∈ Region.ready md l.toArray L ↔ i ∈ Region.ready md l.dropLast.toArray L' := by
  rw [mem_ready, mem_ready, head_get hi, List.getElem?_toArray, h.same i hi]
  constructor
  · rintro ⟨h0, o, ho, h1⟩
    exact ⟨h0, o, ho, fun e he hb => by rw [← h.same e.on (by have := (lastDown_spec hd ho).2 e he hb; omega)]; exact h1 e he hb⟩
  · rintro ⟨h0, o, ho, h1⟩
    exact ⟨h0, o, ho, fun e he hb => by rw [h.same e.on (by have := (lastDown_spec hd ho).2 e he hb; omega)]; exact h1 e he hb⟩
theorem SameHead.all {l : List Oper} {L L' : Array Bool} (h : SameHead md l L L') (hs : lastSink md l = true) (hr : l.length - 1 ∈ Region.ready md l.toArray L) : ∀ (k i : Nat), i < l.length - 1 → l.length - 1 ≤ i + k → L.getD i false = true
  | 0, i, hi, hk => by omega
  | k + 1, i, hi, hk => by
    obtain ⟨j, o, hij, ho, e, he, hb, rfl⟩ := lastSink_spec hs hi
    have hjl := (List.getElem?_eq_some_iff.1 ho).1
    by_cases hj : j = l.length - 1
    · obtain ⟨_, o', ho', hall⟩ := mem_ready.1 hr
      rw [List.getElem?_toArray, ← hj, ho] at ho'
      injection ho' with ho'; subst ho'
      exact hall e he hb
    · exact h.inv j o ho (h.all hs hr k j (by omega) (by omega)) e he hb
theorem SameHead.some_ready {l : List Oper} {L L' : Array Bool} (h : SameHead md l L L') (hd : lastDown md l = true) (hn : 0 < l.length) : Region.ready md l.toArray L ≠ [] := fun h0 => by
  have key : ∀ k, k < l.length → L.getD k false = true := by
    intro k
    induction k using Nat.strongRecOn with
    | ind k ih =>
      intro hk
      cases hq : L.getD k false with
      | true => rfl
      | false =>
        obtain ⟨o, ho⟩ : ∃ o, l[k]? = some o := ⟨_, List.getElem?_eq_getElem hk⟩
        have : k ∈ Region.ready md l.toArray L := mem_ready.2 ⟨by rw [getD_any (by rw [h.size]; exact hk) true false]; exact hq, o, by rw [List.getElem?_toArray]; exact ho, fun e he hb => by
          have := (lastDown_spec hd ho).2 e he hb
          exact ih e.on this (by omega)⟩
        rw [h0] at this; cases this
  have := key (l.length - 1) (by omega)
  rw [h.last] at this; cases this
theorem SameHead.step {l : List Oper} {L L' : Array Bool} (h : SameHead md l L L') {i : Nat} (hi : i < l.length - 1) (hr : i ∈ Region.ready md l.toArray L) : SameHead md l (L.setIfInBounds i true) (L'.setIfInBounds i true) := by
  refine ⟨by simpa using h.size, by simpa using h.size', fun k hk d => ?_, fun j o ho hj e he hb => ?_, by rw [getD_set_ne false (by omega)]; exact h.last⟩
  · by_cases e : i = k
    · subst e; simp [h.size, h.size', hk, show i < l.length by omega]
    · rw [getD_set_ne d e, getD_set_ne d e]; exact h.same k hk d
  · by_cases e1 : i = j
    · subst e1
      obtain ⟨_, o', ho', hall⟩ := mem_ready.1 hr
      rw [List.getElem?_toArray, ho] at ho'
      injection ho' with ho'; subst ho'
      exact getD_set_true (hall e he hb)
    · rw [getD_set_ne false e1] at hj
      exact getD_set_true (h.inv j o ho hj e he hb)
theorem wpOp_head {l : List Oper} (hd : lastDown md l = true) {N : Act → World → Prop} {i : Nat} (hi : i < l.length - 1) {K K' : Act → World → Prop} {a : Act} {w : World} (hK : ∀ a w, K a w → K' a w)
    (h : wpOp P l.dropLast.toArray (tailQ N Q) i K a w) : wpOp P l.toArray Q i K' a w := by
  refine wpOp_mono hK ?_
  obtain ⟨o, ho⟩ : ∃ o, l[i]? = some o := ⟨_, List.getElem?_eq_getElem (by omega)⟩
  have hg := (lastDown_spec hd ho).1
  unfold wpOp at h ⊢
  simp only [head_get hi, List.getElem?_toArray, ho, Region.wanted, hg, if_true, wp_tailQ, lets_tailQ] at h ⊢
  exact h
theorem last_step {l : List Oper} {L L' : Array Bool} (h : SameHead md l L L') (hs : lastSink md l = true) (hr : l.length - 1 ∈ Region.ready md l.toArray L) (hn : 0 < l.length) {fuel : Nat} {a : Act} {w : World}
    (H : wpOp P l.toArray Q (l.length - 1) (Q .normal) a w) : wpOp P l.toArray Q (l.length - 1) (wpAny P md l.toArray Q fuel (L.setIfInBounds (l.length - 1) true)) a w := by
  have h0 : Region.ready md l.toArray (L.setIfInBounds (l.length - 1) true) = [] := by
    refine List.eq_nil_iff_forall_not_mem.2 fun j hj => ?_
    obtain ⟨h1, o, ho, _⟩ := mem_ready.1 hj
    have hjl : j < l.length := by rw [List.getElem?_toArray] at ho; exact (List.getElem?_eq_some_iff.1 ho).1
    by_cases e : l.length - 1 = j
    · subst e; simp [h.size, hjl] at h1
    · rw [getD_set_ne true e, getD_any (by rw [h.size]; exact hjl) true false, h.all hs hr (l.length - 1) j (by omega) (by omega)] at h1
      cases h1
  refine wpOp_mono (fun a w hq => ?_) H
  cases fuel with
  | zero => exact ⟨h0, hq⟩
  | succ k => exact ⟨fun _ => hq, by rw [h0]; simp⟩
theorem wpAny_last {l : List Oper} (hs : lastSink md l = true) (hd : lastDown md l = true) (hn : 0 < l.length) :
    ∀ (fuel : Nat) (L L' : Array Bool) (a : Act) (w : World), SameHead md l L L' →
      wpAny P md l.dropLast.toArray (tailQ (wpOp P l.toArray Q (l.length - 1) (Q .normal)) Q) fuel L' a w → wpAny P md l.toArray Q (fuel + 1) L a w := by
  intro fuel
  induction fuel with
  | zero =>
    intro L L' a w hS H
    refine ⟨fun h0 => absurd h0 (hS.some_ready hd hn), fun i hi => ?_⟩
    obtain ⟨_, o, ho, _⟩ := mem_ready.1 hi
    have hil : i < l.length := by rw [List.getElem?_toArray] at ho; exact (List.getElem?_eq_some_iff.1 ho).1
    by_cases e : i < l.length - 1
    · have := (hS.ready hd e).1 hi
      rw [H.1] at this; cases this
    · obtain rfl : i = l.length - 1 := by omega
      exact last_step hS hs hi hn H.2
  | succ fuel ih =>
    intro L L' a w hS H
    refine ⟨fun h0 => absurd h0 (hS.some_ready hd hn), fun i hi => ?_⟩
    obtain ⟨_, o, ho, _⟩ := mem_ready.1 hi
    have hil : i < l.length := by rw [List.getElem?_toArray] at ho; exact (List.getElem?_eq_some_iff.1 ho).1
    by_cases e : i < l.length - 1
    · exact wpOp_head hd e (fun a w h => ih _ _ a w (hS.step e hi) h) (H.2 i ((hS.ready hd e).1 hi))
    · obtain rfl : i = l.length - 1 := by omega
      refine last_step hS hs hi hn (H.1 (List.eq_nil_iff_forall_not_mem.2 fun j hj => ?_))
      obtain ⟨h1, o, ho, _⟩ := mem_ready.1 hj
      have hjl : j < l.length - 1 := by rw [List.getElem?_toArray] at ho; have := (List.getElem?_eq_some_iff.1 ho).1; rwa [List.length_dropLast] at this
      rw [← hS.same j hjl true, getD_any (by rw [hS.size]; omega) true false, hS.all hs hi (l.length - 1) j hjl (by omega)] at h1
      cases h1
theorem tailQ_end {N : Act → World → Prop} {a : Act} {w : World} (h : N a w) : tailQ N Q .normal a w := h
theorem wp_region_last {id : Nat} {l : List Oper} {a : Act} {w : World} {S : World → Prop} (n : Nat) (hn : l.length = n + 1) (hm : P.follows .mixedOrders = true) (hs : lastSink .any l = true) (hd : lastDown .any l = true) (hS : S w.drew)
    (h : S w.drew → wpAnyH P .any l.dropLast.toArray (tailQ (wpOp P l.toArray Q n (Q .normal)) Q) S n (Array.replicate n false) a w.drew) : (Code.region id l.toArray true).wp P Q a w := by
  obtain rfl : n = l.length - 1 := by omega
  have hH : SameHead .any l (Array.replicate l.length false) (Array.replicate (l.length - 1) false) := by
    refine ⟨by simp, by simp, fun i hi d => ?_, fun j o ho hj => ?_, ?_⟩
    · simp [hi, show i < l.length by omega]
    · have hl := (List.getElem?_eq_some_iff.1 ho).1
      simp [hl] at hj
    · simp [show l.length - 1 < l.length by omega]
  have := wpAny_last (Q := Q) hs hd (by omega) (l.length - 1) _ _ a w.drew hH (wpAny_of_held _ _ _ _ (h hS))
  rw [show l.length - 1 + 1 = l.toArray.size by simp; omega] at this
  refine wp_region_any hm ?_
  rw [show Array.replicate l.toArray.size false = Array.replicate l.length false by simp]
  exact this
end
end Go.Proofs.YtdnkignhenkamaaGreatDoor

