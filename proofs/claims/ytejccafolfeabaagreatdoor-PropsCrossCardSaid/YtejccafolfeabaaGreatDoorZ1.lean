/-
  Several texts in one, in their build order: Mem, App, Plain, Base, Hex, Par, Par2, PropsP, PropsQ, PropsR, PropsS, PropsT, PrintP, PropsU, Alg, PropsV, PropsW, PropsX, DbM.
-/
import Derived.Below
import Derived.Laws.OwnMore
import Derived.Deep.AppendLies
import Derived.Deep.Draws
import Derived.Lib.Hide
import Derived.Maps.AppendAt
import Derived.RegionTactic
import Derived.OwnWalk
import Derived.Test.YtejccafolfeabaaGreatDoorProg
import Derived.WalkKit
import Derived.WalkSpells
import Derived.WalkLawsBesides
import Derived.Outline
import Derived.BigQuiet
import Derived.Deep.QuietTactic
import Derived.Laws.StructEq
import Derived.Deep.DeepFit
import Derived.Lib.ConvBytes
import Derived.Deep.DeepMust
import Derived.Lib.Strings
import Derived.Lib.DecodeN
import Derived.Lib.RuneCountTail
import Derived.Lib.SlTrimSet
import Derived.Maps.OwnSet
import Derived.Maps.OwnOps
/-
  WORDS FOR MEMORY: a slice that reads as a list of elements of s cells each (nil let in); what keeps such a reading. No program in sight.
-/
namespace Go.Proofs.YtejccafolfeabaaGreatDoor
open Go.RowKit

theorem cell_lt {w : World} {p : Addr} {u : Value} (h : w.cell? p = some u) : p.block < w.heap.size := by
  rcases Nat.lt_or_ge p.block w.heap.size with hlt | hge
  · exact hlt
  · unfold World.cell? at h; rw [Array.getElem?_eq_none hge] at h; cases h

theorem cell_below {w w' : World} {B : Nat} {p : Addr} {u : Value} (h : w.cell? p = some u) (hp : p.block < B) (hb : Below B w w') : w'.cell? p = some u := (hb.cell hp).trans h
theorem cell_keep {w w' : World} {p : Addr} {u : Value} (h : w.cell? p = some u) (hb : Below w.heap.size w w') : w'.cell? p = some u := (hb.cell (cell_lt h)).trans h
theorem below_drewN {B : Nat} {a w : World} (h : Below B a w) (n : Nat) : Below B a (w.drewN n) := ⟨h.os, h.tape, h.output, h.size, h.block⟩
theorem below_refl_drewN {B : Nat} (w : World) (n : Nat) : Below B w (w.drewN n) := below_drewN (Below.refl _ _) n
theorem below_step {B : Nat} {a b c : World} (h : Below B a b) (k : Below b.heap.size b c) (hB : B ≤ b.heap.size) : Below B a c := h.trans (k.mono hB)
/-- Below its own size: two steps one behind the other. -/
theorem below_two {a b c : World} (h : Below a.heap.size a b) (k : Below b.heap.size b c) : Below a.heap.size a c := below_step h k h.size

/-- The slice at A holds the elements cs, each of s cells. -/
def Rd (w : World) (s : Nat) (A : Option Addr) (cs : List (List Value)) : Prop :=
  cs ≠ [] → ∃ b off, A = some ⟨b, off, none⟩ ∧ ∀ (k j : Nat) (x : List Value) (u : Value), cs[k]? = some x → x[j]? = some u → w.cell? ⟨b, off + k * s + j, none⟩ = some u

section
variable {w w' : World} {s : Nat} {A : Option Addr} {cs : List (List Value)}
theorem Rd.nil_ (w : World) (s : Nat) (A : Option Addr) : Rd w s A [] := fun h => absurd rfl h
theorem Rd.keep (h : Rd w s A cs) (hk : ∀ (b off i : Nat) (u : Value), A = some ⟨b, off, none⟩ → w.cell? ⟨b, i, none⟩ = some u → w'.cell? ⟨b, i, none⟩ = some u) : Rd w' s A cs := fun hn => by
  obtain ⟨b, off, rfl, hc⟩ := h hn
  exact ⟨b, off, rfl, fun k j x u hx hu => hk b off _ u rfl (hc k j x u hx hu)⟩
theorem Rd.below (h : Rd w s A cs) (hb : Below w.heap.size w w') : Rd w' s A cs := h.keep fun _ _ _ _ _ hp => cell_keep hp hb
theorem Rd.belowB {B : Nat} (h : Rd w s A cs) (hb : Below B w w') (hB : ∀ a, A = some a → a.block < B) : Rd w' s A cs :=
  h.keep fun b off i _ ha hp => cell_below (p := ⟨b, i, none⟩) hp (hB ⟨b, off, none⟩ ha) hb
theorem Rd.drewN (h : Rd w s A cs) (n : Nat) : Rd (w.drewN n) s A cs := h
theorem Rd.drew (h : Rd w s A cs) : Rd w.drew s A cs := h
theorem Rd.alloc (h : Rd w s A cs) (o : Obj) : Rd (w.alloc o) s A cs := h.below ((Below.refl _ _).alloc (Nat.le_refl _) o)
theorem Rd.setCell (h : Rd w s A cs) {p : Addr} (hp : ∀ a, A = some a → a.block ≠ p.block) (u : Value) : Rd (w.setCell p u) s A cs :=
  h.keep fun b off i v ha hc => (World.cell?_setCell_other w p ⟨b, i, none⟩ u (fun e => hp _ ha (by rw [e]))).trans hc
theorem Rd.lt (h : Rd w s A cs) (hs : ∀ x ∈ cs, x ≠ []) (hn : cs ≠ []) : ∃ b off, A = some ⟨b, off, none⟩ ∧ b < w.heap.size := by
  obtain ⟨b, off, rfl, hc⟩ := h hn
  cases cs with
  | nil => exact absurd rfl hn
  | cons x r =>
    cases x with
    | nil => exact absurd rfl (hs _ (by simp))
    | cons u y => exact ⟨b, off, rfl, cell_lt (hc 0 0 (u :: y) u rfl rfl)⟩

theorem flatten_get {s : Nat} : ∀ {cs : List (List Value)} (_ : ∀ x ∈ cs, x.length = s) {k j : Nat} {x : List Value} {u : Value} (_ : cs[k]? = some x) (_ : x[j]? = some u), cs.flatten[k * s + j]? = some u
  | [], _, k, j, x, u, hx, _ => by simp at hx
  | y :: r, hs, 0, j, x, u, hx, hu => by
    obtain rfl : y = x := by simpa using hx
    have hj : j < y.length := (List.getElem?_eq_some_iff.1 hu).1
    simp only [List.flatten_cons, Nat.zero_mul, Nat.zero_add]
    rw [List.getElem?_append_left hj]; exact hu
  | y :: r, hs, k + 1, j, x, u, hx, hu => by
    have hy : y.length = s := hs y (by simp)
    have := flatten_get (cs := r) (fun z hz => hs z (by simp [hz])) (k := k) (j := j) (x := x) (u := u) (by simpa using hx) hu
    simp only [List.flatten_cons]
    rw [List.getElem?_append_right (by rw [hy, Nat.add_mul]; omega), hy, show (k + 1) * s + j - s = k * s + j by rw [Nat.add_mul]; omega]
    exact this

theorem Rd.of_own {base n c : Nat} {e : TypeId} (h : w.ownsRow base e s (.slice A n c) n cs.flatten) (hs : ∀ x ∈ cs, x.length = s) (hpos : 0 < s) : Rd w s A cs := by
  intro hn
  have hl : 0 < n := by
    rcases Nat.eq_zero_or_pos n with h0 | h0
    · subst h0
      have h1 := h.1
      cases cs with
      | nil => exact absurd rfl hn
      | cons x r => have := hs x (by simp); simp at h1; simp [h1.1] at this; omega
    · exact h0
  obtain ⟨g, cap, hv, _, _⟩ := h.form hl
  injection hv with hA
  subst hA
  refine ⟨g, 0, rfl, fun k j x u hx hu => ?_⟩
  have := h.cells (g := g) rfl (k * s + j) u (flatten_get hs hx hu)
  unfold Addr.add at this
  split at this
  · rename_i h0
    rw [show 0 + k * s + j = 0 by omega]; exact this
  · simpa using this
end

/-- Elements of one cell. -/
theorem Rd.at1 {α : Type} {w : World} {A : Option Addr} {l : List α} {enc : α → Value} (h : Rd w 1 A (l.map fun x => [enc x])) {k : Nat} (hk : k < l.length) :
    ∃ b off x, A = some ⟨b, off, none⟩ ∧ Hid (l[k]? = some x) ∧ w.cell? ⟨b, off + k, none⟩ = some (enc x) := by
  obtain ⟨b, off, rfl, hc⟩ := h (by intro e; cases l with | nil => simp at hk | cons _ _ => simp at e)
  have := hc k 0 [enc l[k]] (enc l[k]) (by simp [hk]) rfl
  exact ⟨b, off, l[k], rfl, List.getElem?_eq_getElem hk, by simpa using this⟩

/-- A range's two cells. -/
def encR (r : Int × Int) : List Value := [.int .i32 r.1, .int .i32 r.2]
theorem encR_len (l : List (Int × Int)) : ∀ x ∈ l.map encR, x.length = 2 := by
  intro x hx; obtain ⟨r, _, rfl⟩ := List.mem_map.1 hx; rfl
theorem Rd.atR {w : World} {A : Option Addr} {l : List (Int × Int)} (h : Rd w 2 A (l.map encR)) {k : Nat} (hk : k < l.length) :
    ∃ b off lo hi, A = some ⟨b, off, none⟩ ∧ Hid (l[k]? = some (lo, hi)) ∧ w.cell? ⟨b, off + k * 2, none⟩ = some (.int .i32 lo) ∧ w.cell? ⟨b, off + k * 2 + 1, none⟩ = some (.int .i32 hi) := by
  obtain ⟨b, off, rfl, hc⟩ := h (by intro e; cases l with | nil => simp at hk | cons _ _ => simp at e)
  have h0 := hc k 0 (encR l[k]) (.int .i32 l[k].1) (by simp [hk]) rfl
  have h1 := hc k 1 (encR l[k]) (.int .i32 l[k].2) (by simp [hk]) rfl
  exact ⟨b, off, l[k].1, l[k].2, rfl, List.getElem?_eq_getElem hk, by simpa using h0, h1⟩
theorem drN1 (w : World) (a : Nat) : ∃ q, w.drewN a = w.drewN q := ⟨a, rfl⟩
theorem drN2 (w : World) (a b : Nat) : ∃ q, (w.drewN a).drewN b = w.drewN q := ⟨a + b, by simp⟩
theorem ret_bool {a b : Bool} (h : a = b) : Ending.returned (.bool a) = .returned (.bool b) := by rw [h]
theorem ret_int {k : IntKind} {a b : Int} (h : a = b) : Ending.returned (.int k a) = .returned (.int k b) := by rw [h]
end Go.Proofs.YtejccafolfeabaaGreatDoor

/-
  WORDS FOR MEMORY, MORE: a row of the call's own whose elements have s cells; append onto it; a store into it. No program in sight.
-/
namespace Go.Proofs.YtejccafolfeabaaGreatDoor
open Go.RowKit

/-- The slice at A is a row of the call's own (its block lies at base or beyond, is not frozen, is known whole); it holds the n elements cs of s cells each. -/
def Own (w : World) (base : Nat) (e : TypeId) (s : Nat) (A : Option Addr) (n c : Nat) (cs : List (List Value)) : Prop :=
  cs.length = n ∧ (∀ x ∈ cs, x.length = s) ∧ w.ownsRow base e s (.slice A n c) n cs.flatten

theorem flatten_len {s : Nat} : ∀ {cs : List (List Value)} (_ : ∀ x ∈ cs, x.length = s), cs.flatten.length = cs.length * s
  | [], _ => by simp
  | x :: r, h => by
    rw [List.flatten_cons, List.length_append, h x (by simp), flatten_len (fun y hy => h y (by simp [hy])), List.length_cons, Nat.add_mul]; omega
theorem flatten_at {s : Nat} : ∀ {cs : List (List Value)} (_ : ∀ x ∈ cs, x.length = s) {j : Nat} {u : Value} (_ : cs.flatten[j]? = some u), ∃ k r x, j = k * s + r ∧ cs[k]? = some x ∧ x[r]? = some u
  | [], _, j, u, h => by simp at h
  | x :: r, hs, j, u, h => by
    have hx := hs x (by simp)
    rw [List.flatten_cons] at h
    rcases Nat.lt_or_ge j x.length with hj | hj
    · rw [List.getElem?_append_left hj] at h
      exact ⟨0, j, x, by simp, rfl, h⟩
    · rw [List.getElem?_append_right hj] at h
      obtain ⟨k, q, y, h1, h2, h3⟩ := flatten_at (fun y hy => hs y (by simp [hy])) h
      exact ⟨k + 1, q, y, by rw [Nat.add_mul]; omega, by simpa using h2, h3⟩
theorem flatten_set {s : Nat} : ∀ {cs : List (List Value)} (_ : ∀ x ∈ cs, x.length = s) {k j : Nat} {x : List Value} {u : Value} (_ : cs[k]? = some x) (_ : j < s), cs.flatten.set (k * s + j) u = (cs.set k (x.set j u)).flatten
  | [], _, k, j, x, u, h, _ => by simp at h
  | y :: r, hs, 0, j, x, u, h, hj => by
    obtain rfl : y = x := by simpa using h
    have hy := hs y (by simp)
    simp only [List.flatten_cons, Nat.zero_mul, Nat.zero_add, List.set_cons_zero]
    rw [List.set_append_left _ _ (by omega)]
  | y :: r, hs, k + 1, j, x, u, h, hj => by
    have hy := hs y (by simp)
    simp only [List.flatten_cons, List.set_cons_succ]
    rw [List.set_append_right _ _ (by rw [hy, Nat.add_mul]; omega), hy, show (k + 1) * s + j - s = k * s + j by rw [Nat.add_mul]; omega,
      flatten_set (fun z hz => hs z (by simp [hz])) (by simpa using h) hj]

section
variable {w w' : World} {base : Nat} {e : TypeId} {s : Nat} {A : Option Addr} {n c : Nat} {cs : List (List Value)}
theorem Own.nil_ (w : World) (base : Nat) (e : TypeId) (s : Nat) : Own w base e s none 0 0 [] := ⟨rfl, by simp, World.ownsRow_nil w base e s⟩
theorem Own.lit (w : World) (base : Nat) (e : TypeId) (s : Nat) (hb : base ≤ w.heap.size) : Own (w.alloc (.cells #[] e)) base e s (some ⟨w.heap.size, 0, none⟩) 0 0 [] :=
  ⟨rfl, by simp, by simpa using World.ownsRow_lit (base := base) (e := e) (size := s) w #[] 0 hb (by unfold maxLen; omega) (by simp)⟩
theorem Own.len (h : Own w base e s A n c cs) : cs.length = n := h.1
theorem Own.rd (h : Own w base e s A n c cs) (hs : 0 < s) : Rd w s A cs := Rd.of_own h.2.2 h.2.1 hs
theorem Own.lt (h : Own w base e s A n c cs) : ∀ a, A = some a → base ≤ a.block ∧ a.block < w.heap.size := fun a ha => h.2.2.lt a.block (by rw [ha]; rfl)
theorem Own.keep (h : Own w base e s A n c cs) (hk : ∀ a, A = some a → w'.heap[a.block]? = w.heap[a.block]?) : Own w' base e s A n c cs := by
  refine ⟨h.1, h.2.1, h.2.2.1, ?_⟩
  rcases h.2.2.2 with h0 | ⟨g, cap, cur, hv, hg, hh, r⟩
  · exact .inl h0
  · refine .inr ⟨g, cap, cur, hv, hg, ?_, r⟩
    injection hv with hA
    rw [hk ⟨g, 0, none⟩ hA]; exact hh
theorem Own.below (h : Own w base e s A n c cs) (hb : Below w.heap.size w w') : Own w' base e s A n c cs := h.keep fun a ha => hb.block _ (h.lt a ha).2
theorem Own.drewN (h : Own w base e s A n c cs) (q : Nat) : Own (w.drewN q) base e s A n c cs := h
theorem Own.drew (h : Own w base e s A n c cs) : Own w.drew base e s A n c cs := h
theorem Own.alloc (h : Own w base e s A n c cs) (o : Obj) : Own (w.alloc o) base e s A n c cs := h.below ((Below.refl _ _).alloc (Nat.le_refl _) o)
theorem Own.setCell (h : Own w base e s A n c cs) {p : Addr} (hp : ∀ a, A = some a → a.block ≠ p.block) (u : Value) : Own (w.setCell p u) base e s A n c cs :=
  h.keep fun a ha => Below.heap_setCell w p u a.block (hp a ha)
theorem Own.grown (h : Own w base e s A n c cs) {row : Option Nat} (hg : w.grownBy w' row) (hne : ∀ a, A = some a → some a.block ≠ row) : Own w' base e s A n c cs :=
  h.keep fun a ha => hg.block _ (h.lt a ha).2 (hne a ha)
theorem Own.more {b' : Nat} (h : Own w base e s A n c cs) (hb : b' ≤ base) : Own w b' e s A n c cs := by
  refine ⟨h.1, h.2.1, h.2.2.1, ?_⟩
  rcases h.2.2.2 with h0 | ⟨g, cap, cur, hv, hg, r⟩
  · exact .inl h0
  · exact .inr ⟨g, cap, cur, hv, by omega, r⟩
/-- Where there is an element, the row's place. -/
theorem Own.form (h : Own w base e s A n c cs) (hn : 0 < n) : ∃ g, A = some ⟨g, 0, none⟩ ∧ base ≤ g ∧ g < w.heap.size := by
  obtain ⟨g, cap, hv, h1, h2⟩ := h.2.2.form hn
  injection hv with hA
  exact ⟨g, hA, h1, h2⟩
theorem Own.frozen {g : Nat} (h : Own w base e s (some ⟨g, 0, none⟩) n c cs) (i : Nat) : w.frozen? ⟨g, i, none⟩ = false := h.2.2.frozenAt i
theorem Own.cell {g k j : Nat} {x : List Value} {u : Value} (h : Own w base e s (some ⟨g, 0, none⟩) n c cs) (hx : cs[k]? = some x) (hu : x[j]? = some u) : w.cell? ⟨g, k * s + j, none⟩ = some u := by
  have hj : j < s := by rw [← h.2.1 x (List.mem_of_getElem? hx)]; exact (List.getElem?_eq_some_iff.1 hu).1
  have hk : k < n := by rw [← h.1]; exact (List.getElem?_eq_some_iff.1 hx).1
  have : k * s + j < n * s := by
    have : (k + 1) * s ≤ n * s := Nat.mul_le_mul_right s hk
    rw [Nat.add_mul] at this; omega
  rw [h.2.2.cellAt _ this]
  exact flatten_get h.2.1 hx hu
/-- One cell of one element is stored. -/
theorem Own.stored {g k j : Nat} {x : List Value} (h : Own w base e s (some ⟨g, 0, none⟩) n c cs) (hx : cs[k]? = some x) (hj : j < s) (u : Value) :
    Own (w.setCell ⟨g, k * s + j, none⟩ u) base e s (some ⟨g, 0, none⟩) n c (cs.set k (x.set j u)) := by
  refine ⟨by simpa using h.1, fun y hy => ?_, ?_⟩
  · rcases List.mem_or_eq_of_mem_set hy with hy | rfl
    · exact h.2.1 y hy
    · rw [List.length_set]; exact h.2.1 x (List.mem_of_getElem? hx)
  · rw [← flatten_set h.2.1 hx hj]
    exact (h.2.2.stored _ u).1
theorem Own.cap (h : Own w base e s A n c cs) : n ≤ c ∧ c ≤ maxLen := by
  rcases h.2.2.2 with ⟨h0, h1⟩ | ⟨g, cap, cur, hv, _, _, h1, h2, _⟩
  · injection h0 with _ _ hc
    subst hc; subst h1; exact ⟨Nat.le_refl _, by unfold maxLen; omega⟩
  · injection hv with _ _ hc
    subst hc; exact ⟨h1, h2⟩
end

theorem Rd.new (w : World) (t : TypeId) (s : Nat) (x : List Value) : Rd (w.alloc (.cells x.toArray t)) s (some ⟨w.heap.size, 0, none⟩) [x] := by
  intro _
  refine ⟨w.heap.size, 0, rfl, fun k j y u hy hu => ?_⟩
  match k, hy with
  | 0, hy =>
    obtain rfl : x = y := by simpa using hy
    unfold World.cell?
    rw [show (w.alloc (.cells x.toArray t)).heap[w.heap.size]? = some (.cells x.toArray t (0, 0)) from heap_alloc_new w _]
    simpa using hu

theorem Rd.newAt {w : World} {t : TypeId} {s b : Nat} {x : List Value} {xs : Array Value} (hb : b = w.heap.size) (hx : xs = x.toArray) : Rd (w.alloc (.cells xs t)) s (some ⟨b, 0, none⟩) [x] := by
  subst hb; subst hx; exact Rd.new w t s x

section
variable {P : Program}
theorem wp_app {o : Oper} {a : Act} {w : World} {K : Act → World → Prop} {Q : Exit → Act → World → Prop} (s x : Operand) (t : TypeId)
    (ho : o.op = .call { callee := .builtin .append, args := #[s, x], argTypes := #[t, t] })
    (base : Nat) (e : TypeId) (i : TypeInfo) (z : Value) (size bytes : Nat) (ht : P.underlying t = some (.slice e)) (hi : P.info? e = some i) (hz : i.zero = some z)
    (hsize : i.size = size) (hby : i.bytes = bytes) (hzs : z.cells.size = size) (hsz : 0 < size)
    (A : Option Addr) (n c : Nat) (cs : List (List Value)) (hs : a.eval s = .slice A n c) (hown : Own w base e size A n c cs)
    (A2 : Option Addr) (m c2 : Nat) (xs : List (List Value)) (hx : a.eval x = .slice A2 m c2) (hm : xs.length = m) (hr : Rd w size A2 xs) (h1 : ∀ y ∈ xs, y.length = size ∧ ∀ u ∈ y, u.oneCell' = true)
    (h63 : n + m ≤ maxLen) (hbytes : (n + m) * bytes ≤ 140737488355328) (hbase : base ≤ w.heap.size)
    (h : ∀ A' c' w', Own w' base e size A' (n + m) c' (cs ++ xs) → w.grownBy w' (A.map (·.block)) → (A' = A ∨ A' = some ⟨w.heap.size, 0, none⟩) → K (a.put o.dst (.slice A' (n + m) c')) w') : o.wp P a w K Q := by
  have hxl : ∀ y ∈ xs, y.length = size := fun y hy => (h1 y hy).1
  have hall : ∀ y ∈ cs ++ xs, y.length = size := fun y hy => by
    rcases List.mem_append.1 hy with hy | hy
    · exact hown.2.1 y hy
    · exact hxl y hy
  have hob : (Value.slice A n c).ownBlock = A.map (·.block) := by cases A <;> rfl
  have key : ∃ v' w', (Builtin.append_ #[t, t] o.type #[.slice A n c, .slice A2 m c2]).run P w = .ok v' w' ∧ w'.ownsRow base e size v' (n + m) (cs.flatten ++ xs.flatten) ∧ w.grownBy w' (Value.slice A n c).ownBlock ∧
      (v'.ownBlock = (Value.slice A n c).ownBlock ∨ v'.ownBlock = some w.heap.size) := by
    cases A2 with
    | none =>
      have hnil : xs = [] := Classical.byContradiction fun hne => by obtain ⟨b, off, hb, _⟩ := hr hne; cases hb
      subst hnil
      subst hm
      refine ⟨.slice A n c, w, ?_, by simpa using hown.2.2, World.grownBy.refl w _, .inl rfl⟩
      rcases hown.2.2.2 with ⟨h0, rfl⟩ | ⟨g, cap, cur, h0, _, _, hnc, _⟩
      · rw [h0]; simp [Builtin.append_, run_underlying ht, sizeOf, typeInfo, hi, Builtin.lenOf, Builtin.firstCells]
      · injection h0 with hA _ hc
        subst hA; subst hc
        simp [Builtin.append_, run_underlying ht, sizeOf, typeInfo, hi, Builtin.lenOf, Builtin.firstCells, hnc, storeCells]
    | some ad =>
      have hcells : ∀ j u, xs.flatten[j]? = some u → w.cell? (ad.add j) = some u := by
        intro j u hu
        obtain ⟨k, r, y, rfl, h2, h3⟩ := flatten_at hxl hu
        have hne : xs ≠ [] := fun e => by subst e; simp at h2
        obtain ⟨b, off, hb, hc⟩ := hr hne
        injection hb with hb
        subst hb
        have := hc k r y u h2 h3
        unfold Addr.add
        split
        · rename_i h0; rw [show off + k * size + r = off by omega] at this; exact this
        · simpa [Nat.add_assoc] using this
      obtain ⟨v', w', hrun, h2, h3, _, h5⟩ := run_append_own_at (P := P) w base t o.type e i z size bytes ht hi hz hsize hby hzs hsz (.slice A n c) n cs.flatten hown.2.2 ad m c2 xs.flatten
        (by rw [flatten_len hxl, hm]) hcells (fun u hu => by obtain ⟨y, hy, hu⟩ := List.mem_flatten.1 hu; exact (h1 y hy).2 u hu) h63 hbytes hbase
      exact ⟨v', w', hrun, h2, h3, h5⟩
  obtain ⟨v', w', hrun, h2, h3, h4⟩ := key
  rw [hob] at h3 h4
  have hv : ∃ A' c', v' = .slice A' (n + m) c' ∧ (A' = A ∨ A' = some ⟨w.heap.size, 0, none⟩) := by
    rcases h2.2 with ⟨rfl, h0⟩ | ⟨g, cap, cur, rfl, _⟩
    · refine ⟨none, 0, by rw [h0], .inl ?_⟩
      rcases hown.2.2.2 with ⟨h9, _⟩ | ⟨g', cap', cur', h9, _⟩
      · injection h9 with h9; exact h9.symm
      · injection h9 with h9
        rcases h4 with h4 | h4 <;> simp [Value.ownBlock, h9] at h4
    · refine ⟨_, _, rfl, ?_⟩
      rcases h4 with h4 | h4
      · left
        rcases hown.2.2.2 with ⟨h9, _⟩ | ⟨g', cap', cur', h9, _⟩
        · injection h9 with h9; subst h9; simp [Value.ownBlock] at h4
        · injection h9 with h9; subst h9; simp [Value.ownBlock] at h4; rw [h4]
      · right; simp [Value.ownBlock] at h4; rw [h4]
  obtain ⟨A', c', rfl, hA'⟩ := hv
  unfold Oper.wp execOp
  simp only [ho, resolve, invoke, builtin, Sem.run_bind, Sem.run_pure, Result.andThen_ok, List.map_toArray, List.map_cons, List.map_nil, hs, hx, hrun]
  exact h A' c' w' ⟨by rw [List.length_append, hown.1, hm], hall, by rw [List.flatten_append]; exact h2⟩ h3 hA'

theorem wpList_app {ops : Array Oper} {rest : List Oper} {o : Oper} {a : Act} {w : World} {Q : Exit → Act → World → Prop} (hgd : o.guard = none) (s x : Operand) (t : TypeId)
    (ho : o.op = .call { callee := .builtin .append, args := #[s, x], argTypes := #[t, t] })
    (base : Nat) (e : TypeId) (i : TypeInfo) (z : Value) (size bytes : Nat) (ht : P.underlying t = some (.slice e)) (hi : P.info? e = some i) (hz : i.zero = some z)
    (hsize : i.size = size) (hby : i.bytes = bytes) (hzs : z.cells.size = size) (hsz : 0 < size)
    (A : Option Addr) (n c : Nat) (cs : List (List Value)) (hs : a.eval s = .slice A n c) (hown : Own w base e size A n c cs)
    (A2 : Option Addr) (m c2 : Nat) (xs : List (List Value)) (hx : a.eval x = .slice A2 m c2) (hm : xs.length = m) (hr : Rd w size A2 xs) (h1 : ∀ y ∈ xs, y.length = size ∧ ∀ u ∈ y, u.oneCell' = true)
    (h63 : n + m ≤ maxLen) (hbytes : (n + m) * bytes ≤ 140737488355328) (hbase : base ≤ w.heap.size)
    (h : ∀ A' c' w', Own w' base e size A' (n + m) c' (cs ++ xs) → w.grownBy w' (A.map (·.block)) → (A' = A ∨ A' = some ⟨w.heap.size, 0, none⟩) → wpList P ops Q rest (a.put o.dst (.slice A' (n + m) c')) w') : wpList P ops Q (o :: rest) a w :=
  wpList_plain hgd fun _ hK => wp_app s x t ho base e i z size bytes ht hi hz hsize hby hzs hsz A n c cs hs hown A2 m c2 xs hx hm hr h1 h63 hbytes hbase fun A' c' w' h2 h3 h4 => hK _ _ (h A' c' w' h2 h3 h4)

theorem step_app {ops : Array Oper} {o : Oper} {a : Act} {w : World} {K : Act → World → Prop} {Q : Exit → Act → World → Prop} {E : Prop} (hgd : o.guard = none) (s x : Operand) (t : TypeId)
    (ho : o.op = .call { callee := .builtin .append, args := #[s, x], argTypes := #[t, t] })
    (base : Nat) (e : TypeId) (i : TypeInfo) (z : Value) (size bytes : Nat) (ht : P.underlying t = some (.slice e)) (hi : P.info? e = some i) (hz : i.zero = some z)
    (hsize : i.size = size) (hby : i.bytes = bytes) (hzs : z.cells.size = size) (hsz : 0 < size)
    (A : Option Addr) (n c : Nat) (cs : List (List Value)) (hs : a.eval s = .slice A n c) (hown : Own w base e size A n c cs)
    (A2 : Option Addr) (m c2 : Nat) (xs : List (List Value)) (hx : a.eval x = .slice A2 m c2) (hm : xs.length = m) (hr : Rd w size A2 xs) (h1 : ∀ y ∈ xs, y.length = size ∧ ∀ u ∈ y, u.oneCell' = true)
    (h63 : n + m ≤ maxLen) (hbytes : (n + m) * bytes ≤ 140737488355328) (hbase : base ≤ w.heap.size)
    (h : ∀ A' c' w', Own w' base e size A' (n + m) c' (cs ++ xs) → w.grownBy w' (A.map (·.block)) → (A' = A ∨ A' = some ⟨w.heap.size, 0, none⟩) → K (a.put o.dst (.slice A' (n + m) c')) w') :
    if Region.wanted o (yielded ops a.tmps) = true then Oper.wp P o a w K Q else E := by
  have hw : Region.wanted o (yielded ops a.tmps) = true := by simp [Region.wanted, hgd]
  rw [if_pos hw]
  exact wp_app s x t ho base e i z size bytes ht hi hz hsize hby hzs hsz A n c cs hs hown A2 m c2 xs hx hm hr h1 h63 hbytes hbase h
end

theorem set_mid {α : Type} (l1 : List α) (z y : α) (l2 : List α) : (l1 ++ z :: l2).set l1.length y = l1 ++ y :: l2 := by
  induction l1 with
  | nil => rfl
  | cons a l1 ih => simp [ih]
theorem get_mid {α : Type} (l1 : List α) (z : α) (l2 : List α) : (l1 ++ z :: l2)[l1.length]? = some z := by simp
/-- A whole range is stored. -/
theorem Own.storedR {w : World} {base : Nat} {e : TypeId} {g n c k : Nat} {l : List (Int × Int)} (h : Own w base e 2 (some ⟨g, 0, none⟩) n c (l.map encR)) (hk : k < l.length) (a b : Int) :
    Own ((w.setCell ⟨g, k * 2, none⟩ (.int .i32 a)).setCell ⟨g, k * 2 + 1, none⟩ (.int .i32 b)) base e 2 (some ⟨g, 0, none⟩) n c ((l.set k (a, b)).map encR) := by
  have h1 := h.stored (k := k) (j := 0) (x := encR l[k]) (by simp [hk]) (by omega) (.int .i32 a)
  have h2 := h1.stored (k := k) (j := 1) (x := (encR l[k]).set 0 (.int .i32 a)) (by simp [hk]) (by omega) (.int .i32 b)
  have e : ((l.map encR).set k ((encR l[k]).set 0 (.int .i32 a))).set k (((encR l[k]).set 0 (.int .i32 a)).set 1 (.int .i32 b)) = (l.set k (a, b)).map encR := by
    rw [List.set_set, List.map_set]; rfl
  rw [e] at h2
  exact h2
theorem Own.cellR {w : World} {base : Nat} {e : TypeId} {g n c k : Nat} {l : List (Int × Int)} {x : Int × Int} (h : Own w base e 2 (some ⟨g, 0, none⟩) n c (l.map encR)) (hk : l[k]? = some x) :
    w.cell? ⟨g, k * 2, none⟩ = some (.int .i32 x.1) ∧ w.cell? ⟨g, k * 2 + 1, none⟩ = some (.int .i32 x.2) := by
  have hx : (l.map encR)[k]? = some (encR x) := by simp [hk]
  exact ⟨h.cell (j := 0) hx rfl, h.cell (j := 1) hx rfl⟩

/-- The last range's upper end is stored. -/
theorem Own.storedHi {w : World} {base : Nat} {e : TypeId} {g n c j : Nat} {o : List (Int × Int)} {y1 y2 : Int} (h : Own w base e 2 (some ⟨g, 0, none⟩) n c ((o ++ [(y1, y2)]).map encR)) (hj : o.length = j) (b : Int) :
    Own (w.setCell ⟨g, j * 2 + 1, none⟩ (.int .i32 b)) base e 2 (some ⟨g, 0, none⟩) n c ((o ++ [(y1, b)]).map encR) := by
  subst hj
  have h1 := h.stored (k := o.length) (j := 1) (x := encR (y1, y2)) (by simp) (by omega) (.int .i32 b)
  have e : ((o ++ [(y1, y2)]).map encR).set o.length ((encR (y1, y2)).set 1 (.int .i32 b)) = (o ++ [(y1, b)]).map encR := by
    rw [List.map_append, List.map_append]
    have := set_mid (o.map encR) (encR (y1, y2)) ((encR (y1, y2)).set 1 (.int .i32 b)) []
    rw [List.length_map] at this
    exact this
  rw [e] at h1
  exact h1

/-- A block that is known whole; none of its cells is frozen. -/
def Blk (w : World) (g : Nat) (t : TypeId) (cs : Array Value) : Prop := w.heap[g]? = some (.cells cs t (0, 0))
section
variable {w w' : World} {g : Nat} {t : TypeId} {cs : Array Value}
theorem Blk.lt (h : Blk w g t cs) : g < w.heap.size := (Array.getElem?_eq_some_iff.1 h).1
theorem Blk.cell (h : Blk w g t cs) (i : Nat) : w.cell? ⟨g, i, none⟩ = cs[i]? := by unfold Blk at h; simp [World.cell?, h]
theorem Blk.frozen (h : Blk w g t cs) (i : Nat) : w.frozen? ⟨g, i, none⟩ = false := by unfold Blk at h; simp [World.frozen?, h]
theorem Blk.new (w : World) (t : TypeId) (cs : Array Value) : Blk (w.alloc (.cells cs t)) w.heap.size t cs := heap_alloc_new w _
theorem Blk.drew (h : Blk w g t cs) : Blk w.drew g t cs := h
theorem Blk.drewN (h : Blk w g t cs) (n : Nat) : Blk (w.drewN n) g t cs := h
theorem Blk.alloc (h : Blk w g t cs) (o : Obj) : Blk (w.alloc o) g t cs := (Below.heap_alloc w o g h.lt).trans h
theorem Blk.set_ (h : Blk w g t cs) (i : Nat) (u : Value) : Blk (w.setCell ⟨g, i, none⟩ u) g t (cs.setIfInBounds i u) := by
  unfold Blk at h ⊢; simp [World.setCell, Array.getElem?_modify, h]
theorem Blk.far (h : Blk w g t cs) {p : Addr} (hp : g ≠ p.block) (u : Value) : Blk (w.setCell p u) g t cs := (Below.heap_setCell w p u g hp).trans h
theorem Blk.below (h : Blk w g t cs) (hb : Below w.heap.size w w') : Blk w' g t cs := (hb.block g h.lt).trans h
theorem Blk.grown {row : Option Nat} (h : Blk w g t cs) (hb : w.grownBy w' row) (hg : some g ≠ row) : Blk w' g t cs := (hb.block g h.lt hg).trans h
end
/- Only one block, and what is new, has turned. -/
theorem only_drewN {a w : World} {row : Option Nat} (h : a.grownBy w row) (n : Nat) : a.grownBy (w.drewN n) row := ⟨h.os, h.tape, h.output, h.size, h.block⟩
theorem only_drew {a w : World} {row : Option Nat} (h : a.grownBy w row) : a.grownBy w.drew row := ⟨h.os, h.tape, h.output, h.size, h.block⟩
theorem only_alloc {a w : World} {row : Option Nat} (h : a.grownBy w row) (o : Obj) : a.grownBy (w.alloc o) row :=
  ⟨h.os, h.tape, h.output, Nat.le_trans h.size (by simp), fun i hi hne => (Below.heap_alloc w o i (Nat.lt_of_lt_of_le hi h.size)).trans (h.block i hi hne)⟩
theorem only_setCell {a w : World} {g : Nat} (h : a.grownBy w (some g)) {p : Addr} (hp : p.block = g ∨ a.heap.size ≤ p.block) (u : Value) : a.grownBy (w.setCell p u) (some g) :=
  ⟨h.os, h.tape, h.output, by simpa [World.setCell] using h.size, fun i hi hne => (Below.heap_setCell w p u i (by
    rintro rfl
    rcases hp with hp | hp
    · exact hne (by rw [hp])
    · omega)).trans (h.block i hi hne)⟩
theorem only_below {a w w' : World} {row : Option Nat} (h : a.grownBy w row) (hb : Below w.heap.size w w') : a.grownBy w' row :=
  ⟨hb.os.trans h.os, hb.tape.trans h.tape, hb.output.trans h.output, Nat.le_trans h.size hb.size, fun i hi hne => (hb.block i (Nat.lt_of_lt_of_le hi h.size)).trans (h.block i hi hne)⟩
theorem only_trans {a b c : World} {row : Option Nat} (h : a.grownBy b row) (k : b.grownBy c row) : a.grownBy c row :=
  ⟨k.os.trans h.os, k.tape.trans h.tape, k.output.trans h.output, Nat.le_trans h.size k.size, fun i hi hne => (k.block i (Nat.lt_of_lt_of_le hi h.size) hne).trans (h.block i hi hne)⟩
theorem only_refl (w : World) (row : Option Nat) : w.grownBy w row := ⟨rfl, rfl, rfl, Nat.le_refl _, fun _ _ _ => rfl⟩
/-- Where the one block that turned lies at B or beyond. -/
theorem below_only {B : Nat} {w w' : World} {g : Nat} (h : w.grownBy w' (some g)) (hB : B ≤ w.heap.size) (hg : B ≤ g) : Below B w w' :=
  ⟨h.os, h.tape, h.output, h.size, fun k hk => h.block k (by omega) (fun e => by injection e; omega)⟩

/-- Behind an append onto a row of the call's own: nothing below B has turned. -/
theorem below_app {B : Nat} {a w w' : World} {A : Option Addr} (h : Below B a w) (hg : w.grownBy w' (A.map (·.block))) (hB : B ≤ w.heap.size) (hA : ∀ ad, A = some ad → B ≤ ad.block) : Below B a w' :=
  h.grown hg hB fun k hk => by
    cases A with
    | none => simp at hk
    | some ad => simp at hk; rw [← hk]; exact hA ad rfl
end Go.Proofs.YtejccafolfeabaaGreatDoor

/-
  PLAIN LAW: lists of ranges, their normal form, what is in them. No program in sight.
-/
namespace Go.Proofs.YtejccafolfeabaaGreatDoor

/-- Is a rune in one of the ranges? -/
def memR (l : List (Int × Int)) (r : Int) : Prop := ∃ x ∈ l, x.1 ≤ r ∧ r ≤ x.2
/-- Rising, apart, none empty. -/
def Nf : List (Int × Int) → Prop
  | [] => True
  | x :: r => x.1 ≤ x.2 ∧ (∀ y ∈ r, x.2 + 1 < y.1) ∧ Nf r
def NF (l : List (Int × Int)) : Prop := Nf l ∧ ∀ x ∈ l, 0 ≤ x.1 ∧ x.2 ≤ 1114111

theorem memR_nil (r : Int) : ¬ memR [] r := fun ⟨_, h, _⟩ => by simp at h
theorem memR_cons (x : Int × Int) (l : List (Int × Int)) (r : Int) : memR (x :: l) r ↔ (x.1 ≤ r ∧ r ≤ x.2) ∨ memR l r := by
  constructor
  · rintro ⟨y, hy, h⟩
    rcases List.mem_cons.1 hy with rfl | hy
    · exact .inl h
    · exact .inr ⟨y, hy, h⟩
  · rintro (h | ⟨y, hy, h⟩)
    · exact ⟨x, by simp, h⟩
    · exact ⟨y, by simp [hy], h⟩
theorem memR_append (a b : List (Int × Int)) (r : Int) : memR (a ++ b) r ↔ memR a r ∨ memR b r := by
  induction a with
  | nil => simp [memR_nil]
  | cons x a ih => rw [List.cons_append, memR_cons, memR_cons, ih, or_assoc]
theorem memR_perm {a b : List (Int × Int)} (h : a.Perm b) (r : Int) : memR a r ↔ memR b r :=
  ⟨fun ⟨x, hx, k⟩ => ⟨x, h.mem_iff.1 hx, k⟩, fun ⟨x, hx, k⟩ => ⟨x, h.mem_iff.2 hx, k⟩⟩

theorem Nf_append (a b : List (Int × Int)) : Nf (a ++ b) ↔ Nf a ∧ Nf b ∧ ∀ x ∈ a, ∀ y ∈ b, x.2 + 1 < y.1 := by
  induction a with
  | nil => simp [Nf]
  | cons x a ih =>
    simp only [List.cons_append, Nf, ih, List.mem_append, List.mem_cons]
    constructor
    · rintro ⟨h1, h2, h3, h4, h5⟩
      refine ⟨⟨h1, fun y hy => h2 y (.inl hy), h3⟩, h4, ?_⟩
      rintro z (rfl | hz) y hy
      · exact h2 y (.inr hy)
      · exact h5 z hz y hy
    · rintro ⟨⟨h1, h2, h3⟩, h4, h5⟩
      refine ⟨h1, ?_, h3, h4, fun z hz y hy => h5 z (.inr hz) y hy⟩
      rintro y (hy | hy)
      · exact h2 y hy
      · exact h5 x (.inl rfl) y hy
theorem Nf_le {l : List (Int × Int)} (h : Nf l) : ∀ x ∈ l, x.1 ≤ x.2 := by
  induction l with
  | nil => intro x hx; simp at hx
  | cons y l ih =>
    intro x hx
    rcases List.mem_cons.1 hx with rfl | hx
    · exact h.1
    · exact ih h.2.2 x hx

/-- A normal form is given by what is in it. -/
theorem Nf_ext : ∀ {a b : List (Int × Int)} (_ : Nf a) (_ : Nf b) (_ : ∀ r, memR a r ↔ memR b r), a = b
  | [], [], _, _, _ => rfl
  | [], y :: rb, _, hb, h => absurd ((h y.1).2 ⟨y, by simp, by omega, hb.1⟩) (memR_nil _)
  | x :: ra, [], ha, _, h => absurd ((h x.1).1 ⟨x, by simp, by omega, ha.1⟩) (memR_nil _)
  | x :: ra, y :: rb, ha, hb, h => by
    have e1 : y.1 ≤ x.1 := by
      obtain ⟨z, hz, h1, h2⟩ := (h x.1).1 ⟨x, by simp, by omega, ha.1⟩
      rcases List.mem_cons.1 hz with rfl | hz
      · exact h1
      · have := hb.2.1 z hz; have := hb.1; omega
    have e2 : x.1 ≤ y.1 := by
      obtain ⟨z, hz, h1, h2⟩ := (h y.1).2 ⟨y, by simp, by omega, hb.1⟩
      rcases List.mem_cons.1 hz with rfl | hz
      · exact h1
      · have := ha.2.1 z hz; have := ha.1; omega
    have e3 : y.2 ≤ x.2 := by
      rcases Int.lt_or_le x.2 y.2 with hlt | hle
      · obtain ⟨z, hz, h1, h2⟩ := (h (x.2 + 1)).2 ⟨y, by simp, by have := ha.1; omega, by omega⟩
        rcases List.mem_cons.1 hz with rfl | hz
        · omega
        · have := ha.2.1 z hz; omega
      · exact hle
    have e4 : x.2 ≤ y.2 := by
      rcases Int.lt_or_le y.2 x.2 with hlt | hle
      · obtain ⟨z, hz, h1, h2⟩ := (h (y.2 + 1)).1 ⟨x, by simp, by have := hb.1; omega, by omega⟩
        rcases List.mem_cons.1 hz with rfl | hz
        · omega
        · have := hb.2.1 z hz; omega
      · exact hle
    have hxy : x = y := Prod.ext (by omega) (by omega)
    subst hxy
    have : ra = rb := Nf_ext ha.2.2 hb.2.2 (fun r => by
      have hr := h r
      rw [memR_cons, memR_cons] at hr
      constructor
      · intro hm
        rcases hr.1 (.inr hm) with hx | hx
        · obtain ⟨z, hz, h1, _⟩ := hm
          have := ha.2.1 z hz; omega
        · exact hx
      · intro hm
        rcases hr.2 (.inr hm) with hx | hx
        · obtain ⟨z, hz, h1, _⟩ := hm
          have := hb.2.1 z hz; omega
        · exact hx)
    rw [this]

/-- One range more behind those that are merged. -/
def mstep (out : List (Int × Int)) (x : Int × Int) : List (Int × Int) :=
  match out.getLast? with
  | some y => if x.1 ≤ y.2 + 1 then out.dropLast ++ [(y.1, max y.2 x.2)] else out ++ [x]
  | none => [x]
theorem mstep_nil (x : Int × Int) : mstep [] x = [x] := rfl
theorem mstep_snoc (o : List (Int × Int)) (y x : Int × Int) : mstep (o ++ [y]) x = if x.1 ≤ y.2 + 1 then o ++ [(y.1, max y.2 x.2)] else o ++ [y] ++ [x] := by
  simp [mstep]
def mergeR (s : List (Int × Int)) : List (Int × Int) := s.foldl mstep []
def Rise (s : List (Int × Int)) : Prop := s.Pairwise fun a b => a.1 ≤ b.1

theorem snoc_cases {α : Type} (l : List α) : l = [] ∨ ∃ o y, l = o ++ [y] := by
  rcases List.eq_nil_or_concat l with h | ⟨o, y, h⟩
  · exact .inl h
  · exact .inr ⟨o, y, by simpa using h⟩

theorem merge_go : ∀ (s out : List (Int × Int)) (_ : Nf out) (_ : Rise s) (_ : ∀ x ∈ s, x.1 ≤ x.2) (_ : ∀ x ∈ s, ∀ y ∈ out, y.1 ≤ x.1),
    Nf (s.foldl mstep out) ∧ ∀ r, memR (s.foldl mstep out) r ↔ memR out r ∨ memR s r
  | [], out, ho, _, _, _ => ⟨ho, fun r => by simp [memR_nil]⟩
  | x :: s, out, ho, hs, hle, hlt => by
    have hs' : Rise s := (List.pairwise_cons.1 hs).2
    have hx := (List.pairwise_cons.1 hs).1
    have hxle := hle x (by simp)
    have hle' : ∀ z ∈ s, z.1 ≤ z.2 := fun z hz => hle z (by simp [hz])
    have key : Nf (mstep out x) ∧ (∀ r, memR (mstep out x) r ↔ memR out r ∨ (x.1 ≤ r ∧ r ≤ x.2)) ∧ (∀ z ∈ s, ∀ y ∈ mstep out x, y.1 ≤ z.1) := by
      rcases snoc_cases out with rfl | ⟨o, y, rfl⟩
      · refine ⟨⟨hxle, by simp, trivial⟩, fun r => ?_, fun z hz y hy => ?_⟩
        · rw [mstep_nil, memR_cons]; simp [memR_nil]
        · rw [mstep_nil] at hy; simp at hy; subst hy; exact hx z hz
      · rw [mstep_snoc]
        rw [Nf_append] at ho
        have hy := hlt x (by simp) y (by simp)
        have hyle : y.1 ≤ y.2 := ho.2.1.1
        split
        · rename_i hc
          refine ⟨?_, fun r => ?_, fun z hz q hq => ?_⟩
          · rw [Nf_append]
            refine ⟨ho.1, ⟨by simp only; omega, by simp, trivial⟩, fun q hq p hp => ?_⟩
            simp at hp; subst hp
            exact ho.2.2 q hq y (by simp)
          · rw [memR_append, memR_append, memR_cons, memR_cons]
            simp only [memR_nil, or_false]
            constructor
            · rintro (h | h)
              · exact .inl (.inl h)
              · by_cases hr : r ≤ y.2
                · exact .inl (.inr (by omega))
                · exact .inr (by omega)
            · rintro ((h | h) | h)
              · exact .inl h
              · exact .inr (by omega)
              · exact .inr (by omega)
          · rcases List.mem_append.1 hq with hq | hq
            · exact hlt z (by simp [hz]) q (by simp [hq])
            · simp at hq; subst hq; exact hlt z (by simp [hz]) y (by simp)
        · rename_i hc
          refine ⟨?_, fun r => ?_, fun z hz q hq => ?_⟩
          · rw [Nf_append, Nf_append]
            refine ⟨ho, ⟨hxle, by simp, trivial⟩, fun q hq p hp => ?_⟩
            simp at hp; subst hp
            rcases List.mem_append.1 hq with hq | hq
            · have := ho.2.2 q hq y (by simp); omega
            · simp at hq; subst hq; omega
          · rw [memR_append, memR_cons]; simp [memR_nil]
          · rcases List.mem_append.1 hq with hq | hq
            · exact hlt z (by simp [hz]) q hq
            · simp at hq; subst hq; exact hx z hz
    obtain ⟨k1, k2, k3⟩ := key
    obtain ⟨g1, g2⟩ := merge_go s (mstep out x) k1 hs' hle' k3
    refine ⟨g1, fun r => ?_⟩
    rw [List.foldl_cons, g2, k2, memR_cons, or_assoc]

def clampR (r : Int × Int) : Int × Int := (max r.1 0, min r.2 1114111)
def keepR (l : List (Int × Int)) : List (Int × Int) := (l.map clampR).filter fun x => decide (x.1 ≤ x.2)
def normR (l : List (Int × Int)) : List (Int × Int) := mergeR ((keepR l).mergeSort fun a b => decide (a.1 ≤ b.1))
/-- Is a rune in what ranges mean? -/
def hasP (l : List (Int × Int)) (r : Int) : Prop := 0 ≤ r ∧ r ≤ 1114111 ∧ memR l r

theorem keepR_le (l : List (Int × Int)) : ∀ x ∈ keepR l, x.1 ≤ x.2 ∧ 0 ≤ x.1 ∧ x.2 ≤ 1114111 := by
  intro x hx
  obtain ⟨h1, h2⟩ := List.mem_filter.1 hx
  obtain ⟨y, _, rfl⟩ := List.mem_map.1 h1
  simp only [decide_eq_true_eq] at h2
  simp only [clampR] at h2 ⊢
  omega
theorem memR_keepR (l : List (Int × Int)) (r : Int) : memR (keepR l) r ↔ hasP l r := by
  constructor
  · rintro ⟨x, hx, h⟩
    obtain ⟨h1, h2⟩ := List.mem_filter.1 hx
    obtain ⟨y, hy, rfl⟩ := List.mem_map.1 h1
    simp only [clampR] at h
    exact ⟨by omega, by omega, y, hy, by omega⟩
  · rintro ⟨h0, h1, y, hy, h⟩
    refine ⟨clampR y, List.mem_filter.2 ⟨List.mem_map.2 ⟨y, hy, rfl⟩, ?_⟩, ?_⟩
    · refine decide_eq_true ?_; show max y.1 0 ≤ min y.2 1114111; omega
    · show max y.1 0 ≤ r ∧ r ≤ min y.2 1114111; omega
theorem merge_of {s l : List (Int × Int)} (hp : s.Perm (keepR l)) (hs : Rise s) : Nf (mergeR s) ∧ ∀ r, memR (mergeR s) r ↔ hasP l r := by
  obtain ⟨h1, h2⟩ := merge_go s [] trivial hs (fun x hx => (keepR_le l x (hp.mem_iff.1 hx)).1) (fun _ _ y hy => by simp at hy)
  refine ⟨h1, fun r => ?_⟩
  rw [← memR_keepR, ← memR_perm hp]
  rw [show mergeR s = s.foldl mstep [] from rfl, h2]
  simp [memR_nil]
theorem sort_rise (l : List (Int × Int)) : Rise (l.mergeSort fun a b => decide (a.1 ≤ b.1)) := by
  have := List.pairwise_mergeSort (le := fun a b : Int × Int => decide (a.1 ≤ b.1)) (by simp; intros; omega) (by simp; intros; omega) l
  exact this.imp (by simp)
theorem normR_nf (l : List (Int × Int)) : Nf (normR l) := (merge_of (List.mergeSort_perm _ _) (sort_rise _)).1
theorem memR_normR (l : List (Int × Int)) (r : Int) : memR (normR l) r ↔ hasP l r := (merge_of (List.mergeSort_perm _ _) (sort_rise _)).2 r
/-- Sorted in whatever way, merged: the normal form. -/
theorem mergeR_eq {s l : List (Int × Int)} (hp : s.Perm (keepR l)) (hs : Rise s) : mergeR s = normR l :=
  Nf_ext (merge_of hp hs).1 (normR_nf l) fun r => ((merge_of hp hs).2 r).trans (memR_normR l r).symm
theorem merge_bd {s l : List (Int × Int)} (hp : s.Perm (keepR l)) (hs : Rise s) (k : Nat) : ∀ y ∈ (s.take k).foldl mstep [], 0 ≤ y.1 ∧ y.1 ≤ y.2 ∧ y.2 ≤ 1114111 := by
  have hk : ∀ x ∈ s.take k, x.1 ≤ x.2 ∧ 0 ≤ x.1 ∧ x.2 ≤ 1114111 := fun x hx => keepR_le l x (hp.mem_iff.1 (List.mem_of_mem_take hx))
  obtain ⟨h1, h2⟩ := merge_go (s.take k) [] trivial (List.Pairwise.sublist (List.take_sublist _ _) hs) (fun x hx => (hk x hx).1) (fun _ _ y hy => by simp at hy)
  intro y hy
  have hle := Nf_le h1 y hy
  obtain ⟨z, hz, _, _⟩ := ((h2 y.1).1 ⟨y, hy, by omega, hle⟩).resolve_left (memR_nil _)
  obtain ⟨q, hq, _, _⟩ := ((h2 y.2).1 ⟨y, hy, hle, by omega⟩).resolve_left (memR_nil _)
  have := hk z hz; have := hk q hq; omega
theorem merge_snoc {s : List (Int × Int)} {k : Nat} {x : Int × Int} (h : s[k]? = some x) : (s.take (k + 1)).foldl mstep [] = mstep ((s.take k).foldl mstep []) x := by
  rw [List.take_add_one, h]; simp
theorem NF_of {l : List (Int × Int)} (h : Nf l) (hb : ∀ r, memR l r → 0 ≤ r ∧ r ≤ 1114111) : NF l :=
  ⟨h, fun x hx => ⟨(hb x.1 ⟨x, hx, by omega, Nf_le h x hx⟩).1, (hb x.2 ⟨x, hx, Nf_le h x hx, by omega⟩).2⟩⟩
theorem normR_NF (l : List (Int × Int)) : NF (normR l) := NF_of (normR_nf l) fun r h => by have := (memR_normR l r).1 h; exact ⟨this.1, this.2.1⟩
theorem NF_mem {l : List (Int × Int)} (h : NF l) (r : Int) : hasP l r ↔ memR l r :=
  ⟨fun k => k.2.2, fun ⟨x, hx, k⟩ => by have := h.2 x hx; exact ⟨by omega, by omega, x, hx, k⟩⟩
/-- A normal form's normal form is itself. -/
theorem normR_of_NF {l : List (Int × Int)} (h : NF l) : normR l = l := Nf_ext (normR_nf l) h.1 fun r => (memR_normR l r).trans (NF_mem h r)
theorem NF_ext {a b : List (Int × Int)} (ha : NF a) (hb : NF b) (h : ∀ r, hasP a r ↔ hasP b r) : a = b :=
  Nf_ext ha.1 hb.1 fun r => ((NF_mem ha r).symm.trans (h r)).trans (NF_mem hb r)
theorem hasP_normR (l : List (Int × Int)) (r : Int) : hasP (normR l) r ↔ hasP l r := (NF_mem (normR_NF l) r).trans (memR_normR l r)
theorem normR_congr {a b : List (Int × Int)} (h : ∀ r, hasP a r ↔ hasP b r) : normR a = normR b :=
  NF_ext (normR_NF a) (normR_NF b) fun r => by rw [hasP_normR, hasP_normR, h]

/-- What lies between the ranges, from a rune on. -/
def notGo : Int → List (Int × Int) → List (Int × Int)
  | next, [] => if next ≤ 1114111 then [(next, 1114111)] else []
  | next, x :: r => (if next < x.1 then [(next, x.1 - 1)] else []) ++ notGo (x.2 + 1) r
def notR (l : List (Int × Int)) : List (Int × Int) := notGo 0 (normR l)
theorem notGo_spec : ∀ (l : List (Int × Int)) (next : Int) (_ : NF l) (_ : 0 ≤ next) (_ : ∀ x ∈ l, next ≤ x.1),
    Nf (notGo next l) ∧ (∀ x ∈ notGo next l, next ≤ x.1) ∧ ∀ r, memR (notGo next l) r ↔ (next ≤ r ∧ r ≤ 1114111 ∧ ¬ memR l r)
  | [], next, _, h0, _ => by
    unfold notGo
    split
    · refine ⟨⟨by simp only; omega, by simp, trivial⟩, by simp, fun r => ?_⟩
      rw [memR_cons]; simp [memR_nil]
    · exact ⟨trivial, by simp, fun r => by simp [memR_nil]; omega⟩
  | x :: l, next, hn, h0, hx => by
    have hxb := hn.2 x (by simp)
    have hxl := hn.1.1
    obtain ⟨g1, g2, g3⟩ := notGo_spec l (x.2 + 1) ⟨hn.1.2.2, fun z hz => hn.2 z (by simp [hz])⟩ (by omega) (fun z hz => by have := hn.1.2.1 z hz; omega)
    have hx1 := hx x (by simp)
    unfold notGo
    refine ⟨?_, ?_, fun r => ?_⟩
    · rw [Nf_append]
      refine ⟨?_, g1, ?_⟩
      · split
        · exact ⟨by simp only; omega, by simp, trivial⟩
        · trivial
      · intro q hq p hp
        have := g2 p hp
        split at hq
        · simp at hq; subst hq; simp only; omega
        · simp at hq
    · intro q hq
      rcases List.mem_append.1 hq with hq | hq
      · split at hq
        · simp at hq; subst hq; simp
        · simp at hq
      · have := g2 q hq; omega
    · rw [memR_append, g3, memR_cons]
      have hl : ∀ q, memR l q → x.2 + 1 < q := fun q ⟨z, hz, h1, _⟩ => by have := hn.1.2.1 z hz; omega
      split
      · rw [memR_cons]
        simp only [memR_nil, or_false, not_or]
        constructor
        · rintro (h | ⟨h1, h2, h3⟩)
          · refine ⟨by omega, by omega, by omega, fun hm => ?_⟩
            have := hl r hm; omega
          · exact ⟨by omega, h2, by omega, h3⟩
        · rintro ⟨h1, h2, h3, h4⟩
          by_cases hr : r < x.1
          · exact .inl (by omega)
          · exact .inr ⟨by omega, h2, h4⟩
      · simp only [memR_nil, false_or, not_or]
        constructor
        · rintro ⟨h1, h2, h3⟩; exact ⟨by omega, h2, by omega, h3⟩
        · rintro ⟨h1, h2, h3, h4⟩; exact ⟨by omega, h2, h4⟩
theorem notR_spec (l : List (Int × Int)) : Nf (notR l) ∧ ∀ r, memR (notR l) r ↔ (0 ≤ r ∧ r ≤ 1114111 ∧ ¬ hasP l r) := by
  obtain ⟨h1, _, h3⟩ := notGo_spec (normR l) 0 (normR_NF l) (by omega) (fun x hx => ((normR_NF l).2 x hx).1)
  exact ⟨h1, fun r => by rw [← memR_normR]; exact h3 r⟩
theorem notR_NF (l : List (Int × Int)) : NF (notR l) := NF_of (notR_spec l).1 fun r h => by have := ((notR_spec l).2 r).1 h; exact ⟨this.1, this.2.1⟩
theorem hasP_notR (l : List (Int × Int)) (r : Int) : hasP (notR l) r ↔ (0 ≤ r ∧ r ≤ 1114111 ∧ ¬ hasP l r) := (NF_mem (notR_NF l) r).trans ((notR_spec l).2 r)

def orR (a b : List (Int × Int)) : List (Int × Int) := normR (a ++ b)
def andR (a b : List (Int × Int)) : List (Int × Int) := notR (orR (notR a) (notR b))
def minusR (a b : List (Int × Int)) : List (Int × Int) := andR a (notR b)
theorem hasP_orR (a b : List (Int × Int)) (r : Int) : hasP (orR a b) r ↔ hasP a r ∨ hasP b r := by
  rw [orR, hasP_normR]; unfold hasP; rw [memR_append]
  constructor
  · rintro ⟨h0, h1, h | h⟩
    · exact .inl ⟨h0, h1, h⟩
    · exact .inr ⟨h0, h1, h⟩
  · rintro (⟨h0, h1, h⟩ | ⟨h0, h1, h⟩)
    · exact ⟨h0, h1, .inl h⟩
    · exact ⟨h0, h1, .inr h⟩
theorem hasP_range {l : List (Int × Int)} {r : Int} (h : hasP l r) : 0 ≤ r ∧ r ≤ 1114111 := ⟨h.1, h.2.1⟩
theorem hasP_andR (a b : List (Int × Int)) (r : Int) : hasP (andR a b) r ↔ hasP a r ∧ hasP b r := by
  rw [andR, hasP_notR, hasP_orR, hasP_notR, hasP_notR]
  constructor
  · rintro ⟨h0, h1, h⟩
    refine ⟨Classical.byContradiction fun k => h (.inl ⟨h0, h1, k⟩), Classical.byContradiction fun k => h (.inr ⟨h0, h1, k⟩)⟩
  · rintro ⟨ha, hb⟩
    refine ⟨ha.1, ha.2.1, ?_⟩
    rintro (⟨_, _, h⟩ | ⟨_, _, h⟩)
    · exact h ha
    · exact h hb
theorem hasP_minusR (a b : List (Int × Int)) (r : Int) : hasP (minusR a b) r ↔ hasP a r ∧ ¬ hasP b r := by
  rw [minusR, hasP_andR, hasP_notR]
  exact ⟨fun ⟨h, _, _, k⟩ => ⟨h, k⟩, fun ⟨h, k⟩ => ⟨h, h.1, h.2.1, k⟩⟩
theorem orR_NF (a b : List (Int × Int)) : NF (orR a b) := normR_NF _
theorem andR_NF (a b : List (Int × Int)) : NF (andR a b) := notR_NF _
theorem minusR_NF (a b : List (Int × Int)) : NF (minusR a b) := notR_NF _
theorem NF_len : ∀ {l : List (Int × Int)} {b : Int} (_ : Nf l) (_ : ∀ x ∈ l, b ≤ x.1 ∧ x.2 ≤ 1114111) (_ : b ≤ 1114113), b + 2 * (l.length : Int) ≤ 1114113
  | [], b, _, _, h => by simp; omega
  | x :: l, b, hn, hb, _ => by
    have hx := hb x (by simp)
    have := hn.1
    have ih := NF_len (l := l) (b := x.2 + 2) hn.2.2 (fun z hz => ⟨by have := hn.2.1 z hz; omega, (hb z (by simp [hz])).2⟩) (by omega)
    simp only [List.length_cons]; omega
theorem NF.len {l : List (Int × Int)} (h : NF l) : l.length ≤ 557056 := by have := NF_len (b := 0) h.1 h.2 (by omega); omega

/-- Is a rune in what ranges mean? As a Bool. -/
def hasB (l : List (Int × Int)) (r : Int) : Bool := decide (0 ≤ r) && decide (r ≤ 1114111) && l.any fun x => decide (x.1 ≤ r) && decide (r ≤ x.2)
theorem hasB_iff (l : List (Int × Int)) (r : Int) : hasB l r = true ↔ hasP l r := by
  simp only [hasB, hasP, memR, Bool.and_eq_true, decide_eq_true_eq, List.any_eq_true]
  constructor
  · rintro ⟨⟨h0, h1⟩, x, hx, h⟩; exact ⟨h0, h1, x, hx, h⟩
  · rintro ⟨h0, h1, x, hx, h⟩; exact ⟨⟨h0, h1⟩, x, hx, h⟩
theorem hasB_true {l : List (Int × Int)} {r : Int} (h : hasP l r) : hasB l r = true := (hasB_iff l r).2 h
theorem hasB_false {l : List (Int × Int)} {r : Int} (h : ¬ hasP l r) : hasB l r = false := by
  cases hb : hasB l r
  · rfl
  · exact absurd ((hasB_iff l r).1 hb) h
theorem notGo_cons (next : Int) (x : Int × Int) (r : List (Int × Int)) : notGo next (x :: r) = (if next < x.1 then [(next, x.1 - 1)] else []) ++ notGo (x.2 + 1) r := rfl
theorem notGo_nil (next : Int) : notGo next [] = if next ≤ 1114111 then [(next, 1114111)] else [] := rfl
theorem drop_cons_of {α : Type} {l : List α} {k : Nat} {x : α} (h : l[k]? = some x) : l.drop k = x :: l.drop (k + 1) := by
  obtain ⟨hk, rfl⟩ := List.getElem?_eq_some_iff.1 h
  exact List.drop_eq_getElem_cons hk
/-- How many runes, summed up. -/
def cntR : List (Int × Int) → Int
  | [] => 0
  | x :: r => (x.2 - x.1 + 1) + cntR r
def countR (l : List (Int × Int)) : Int := cntR (normR l)
theorem cntR_append (a b : List (Int × Int)) : cntR (a ++ b) = cntR a + cntR b := by
  induction a with
  | nil => simp [cntR]
  | cons x a ih => simp only [List.cons_append, cntR, ih]; omega
theorem cntR_take {l : List (Int × Int)} {k : Nat} {x : Int × Int} (h : l[k]? = some x) : cntR (l.take (k + 1)) = cntR (l.take k) + (x.2 - x.1) + 1 := by
  rw [List.take_add_one, h, cntR_append]; simp only [Option.toList_some, cntR]; omega
theorem cntR_bd : ∀ {l : List (Int × Int)} {b : Int} (_ : Nf l) (_ : ∀ x ∈ l, b ≤ x.1 ∧ x.2 ≤ 1114111) (_ : b ≤ 1114112), 0 ≤ cntR l ∧ b + cntR l ≤ 1114112
  | [], b, _, _, h => by simp [cntR]; omega
  | x :: l, b, hn, hb, _ => by
    have hx := hb x (by simp)
    have := hn.1
    have ih := cntR_bd (l := l) (b := x.2 + 1) hn.2.2 (fun z hz => ⟨by have := hn.2.1 z hz; omega, (hb z (by simp [hz])).2⟩) (by omega)
    simp only [cntR]; omega
theorem NF.cnt {l : List (Int × Int)} (h : NF l) : 0 ≤ cntR l ∧ cntR l ≤ 1114112 := by have := cntR_bd (b := 0) h.1 h.2 (by omega); omega
theorem Nf_take {l : List (Int × Int)} (h : Nf l) (k : Nat) : Nf (l.take k) := by
  have := (Nf_append (l.take k) (l.drop k)).1 (by rw [List.take_append_drop]; exact h)
  exact this.1
theorem NF.take {l : List (Int × Int)} (h : NF l) (k : Nat) : NF (l.take k) := ⟨Nf_take h.1 k, fun x hx => h.2 x (List.mem_of_mem_take hx)⟩
/-- The rune of a number. -/
def atGo : List (Int × Int) → Int → Int × Bool
  | [], _ => (0, false)
  | x :: r, i => if i < x.2 - x.1 + 1 then (x.1 + i, true) else atGo r (i - (x.2 - x.1 + 1))
def atR (l : List (Int × Int)) (i : Int) : Int × Bool := if i < 0 then (0, false) else atGo (normR l) i
theorem atGo_cons (x : Int × Int) (r : List (Int × Int)) (i : Int) : atGo (x :: r) i = if i < x.2 - x.1 + 1 then (x.1 + i, true) else atGo r (i - (x.2 - x.1 + 1)) := rfl
/-- The number of a rune. -/
def ixGo (r : Int) : List (Int × Int) → Int → Int × Bool
  | [], _ => (0, false)
  | x :: t, c => if x.1 ≤ r ∧ r ≤ x.2 then (c + (r - x.1), true) else ixGo r t (c + (x.2 - x.1) + 1)
def ixR (l : List (Int × Int)) (r : Int) : Int × Bool := ixGo r (normR l) 0
theorem ixGo_cons (r : Int) (x : Int × Int) (t : List (Int × Int)) (c : Int) : ixGo r (x :: t) c = if x.1 ≤ r ∧ r ≤ x.2 then (c + (r - x.1), true) else ixGo r t (c + (x.2 - x.1) + 1) := rfl
end Go.Proofs.YtejccafolfeabaaGreatDoor

/-
  THE PROGRAM's SMALL FACTS: what '==' and '!=' give at a Range; the zero values of the types that are appended.
-/
namespace Go.Proofs.YtejccafolfeabaaGreatDoor
open Go.RowKit

theorem guardR (op : BinOp) (x y : Operand) (xs ys : Array Value) (w : World) : (eqGuard op 80 x y (.agg xs) (.agg ys)).run Tryz.prog w = .ok () w :=
  run_eqGuard_agg w op _ x y xs ys (by kernel_rfl)
theorem infoR : (Tryz.prog.info? 80).map (fun i => (i.zero, i.size, i.bytes)) = some (some (.agg #[.int .i32 0, .int .i32 0]), 2, 8) := by kernel_rfl
theorem infoInt : (Tryz.prog.info? 3).map (fun i => (i.zero, i.size, i.bytes)) = some (some (.int .i64 0), 1, 8) := by kernel_rfl
theorem encR_ok (l : List (Int × Int)) : ∀ y ∈ l.map encR, y.length = 2 ∧ ∀ u ∈ y, u.oneCell' = true := by
  intro y hy; obtain ⟨r, _, rfl⟩ := List.mem_map.1 hy
  exact ⟨rfl, by simp [encR, Value.oneCell']⟩
/-- Are two ranges the same? (Behind a name: the walk must not take it apart.) -/
def eqRB (a b c d : Int) : Bool := decide ((a, b) = (c, d))
theorem eqRB_true {a b c d : Int} (h : (a, b) = (c, d)) : eqRB a b c d = true := decide_eq_true h
theorem eqRB_false {a b c d : Int} (h : ¬ (a, b) = (c, d)) : eqRB a b c d = false := decide_eq_false h
theorem eqlR (a b c d : Int) (w : World) : (binOp .eql 80 (.agg #[.int .i32 a, .int .i32 b]) (.agg #[.int .i32 c, .int .i32 d])).run Tryz.prog w = .ok (.bool (eqRB a b c d)) w := by
  have hS : Tryz.prog.underlying 80 = some (.struct (Tryz.prog.fieldsOf 80)) := by kernel_rfl
  have hp : Tryz.prog.stoodInHeld 80 = false := by kernel_rfl
  have u3 := Tryz.underlying21
  have a3 := Tryz.isAgg21
  have z3 := Tryz.sizeOf21
  rw [run_eql_struct, show (10000 : Nat) = 9999 + 1 from rfl, run_equalIn_agg w 9999 _ _ _ hS hp]
  simp only [Program.fieldsOf, Tryz.underlying80]
  go_simp
  by_cases h1 : a = c <;> by_cases h2 : b = d <;> simp [eqRB, h1, h2]
theorem neqR (a b c d : Int) (w : World) : (binOp .neq 80 (.agg #[.int .i32 a, .int .i32 b]) (.agg #[.int .i32 c, .int .i32 d])).run Tryz.prog w = .ok (.bool (!eqRB a b c d)) w := by
  have h := eqlR a b c d w
  rw [run_eql_struct] at h
  rw [run_neq_struct]
  cases hq : (Op.equalIn 10000 80 (.agg #[.int .i32 a, .int .i32 b]) (.agg #[.int .i32 c, .int .i32 d])).run Tryz.prog w with
  | ok b' w' => rw [hq] at h; simp at h; simp [h]
  | _ => rw [hq] at h; simp at h

/-- A string's byte at an index that is a sum. -/
theorem index_at (s : ByteArray) (i : Int) (p : Nat) (hi : i = p) (hp : p < s.size) (W : World) : (Instr.index 9 (.string s) (.int .i64 i)).run Tryz.prog W = .ok (.int .u8 ((s[p]'hp).toNat : Int)) W := by
  subst hi
  rw [run_index_string _ _ _ _ _ Tryz.underlying9]
  simp [hp]
/- Contracts of callees that leave the world as it was, inside a region that draws its order. -/
theorem quiet_add_left {P : Program} {f : FuncId} {args : Array Value} {w : World} {a n : Nat} {v : Value}
    (h : Calls P f args (w.drewN (a + n)) fun e w' => e = .returned v ∧ w.drewN (a + n) = w') :
    Calls P f args (w.drewN (a + n)) fun e w'' => e = .returned v ∧ ∃ m, w'' = w.drewN (a + m) :=
  h.mono fun _ _ ⟨he, hm⟩ => ⟨he, n, hm.symm⟩
theorem quiet_left {P : Program} {f : FuncId} {args : Array Value} {w : World} {n : Nat} {v : Value}
    (h : Calls P f args (w.drewN n) fun e w' => e = .returned v ∧ w.drewN n = w') : Calls P f args (w.drewN n) fun e w'' => e = .returned v ∧ ∃ m, w'' = w.drewN m :=
  h.mono fun _ _ ⟨he, hm⟩ => ⟨he, n, hm.symm⟩
end Go.Proofs.YtejccafolfeabaaGreatDoor

/-
  runes.hex; strconv.ParseInt at base 16, 32 bits, of up to six hexadecimal digits.
-/
namespace Go.Proofs.YtejccafolfeabaaGreatDoor
open Go.RowKit

def isHexN (c : Int) : Bool := decide ((48 ≤ c ∧ c ≤ 57) ∨ (65 ≤ c ∧ c ≤ 70))
def hexDig (c : Int) : Int := if c ≤ 57 then c - 48 else c - 55

theorem isHexN_t {c : Int} (h : (48 ≤ c ∧ c ≤ 57) ∨ (65 ≤ c ∧ c ≤ 70)) : true = isHexN c := (decide_eq_true h).symm
theorem isHexN_f {c : Int} (h : ¬ ((48 ≤ c ∧ c ≤ 57) ∨ (65 ≤ c ∧ c ≤ 70))) : false = isHexN c := (decide_eq_false h).symm
theorem rhex_any (c : Int) (w : World) (h0 : 0 ≤ c) (h1 : c ≤ 255) : Calls Tryz.prog 193 #[.int .u8 c] w fun e w' => e = .returned (.bool (isHexN c)) ∧ w = w' := by
  rcases (by omega : c < 48 ∨ (48 ≤ c ∧ c ≤ 57) ∨ (57 < c ∧ c < 65) ∨ (65 ≤ c ∧ c ≤ 70) ∨ 70 < c) with h | ⟨h, h'⟩ | ⟨h, h'⟩ | ⟨h, h'⟩ | h
  all_goals
    go_enter Tryz.func193, Tryz.ntmps193
    go_wp2
    go_ret
    exact ⟨ret_bool (by first | (refine isHexN_t ?_; omega) | (refine isHexN_f ?_; omega) | (unfold isHexN; rw [Bool.eq_iff_iff]; simp only [Bool.or_eq_true, decide_eq_true_eq]; omega)), rfl⟩
/-- A letter's lower case: 'A' to 'F'. -/
theorem ilower_any (c : Int) (w : World) (h0 : 65 ≤ c) (h1 : c ≤ 70) : Calls Tryz.prog 215 #[.int .u8 c] w fun e w' => e = .returned (.int .u8 (c + 32)) ∧ w = w' := by
  rcases (by omega : c = 65 ∨ c = 66 ∨ c = 67 ∨ c = 68 ∨ c = 69 ∨ c = 70) with rfl | rfl | rfl | rfl | rfl | rfl
  all_goals
    go_enter Tryz.func215, Tryz.ntmps215
    go_wp2
    go_ret
    exact ⟨rfl, rfl⟩

/-- The value of hexadecimal digits. -/
def hexVal (l : List UInt8) : Int := l.foldl (fun a c => a * 16 + hexDig c.toNat) 0
theorem hexVal_snoc (l : List UInt8) (c : UInt8) : hexVal (l ++ [c]) = hexVal l * 16 + hexDig c.toNat := by simp [hexVal]
def allHex (l : List UInt8) : Prop := ∀ c ∈ l, isHexN (c.toNat : Int) = true
theorem hexDig_bd {c : Int} (h : isHexN c = true) : 0 ≤ hexDig c ∧ hexDig c ≤ 15 := by
  have := of_decide_eq_true h
  unfold hexDig; split <;> omega
theorem hexVal_bd : ∀ (n : Nat) (l : List UInt8) (_ : l.length = n) (_ : allHex l), 0 ≤ hexVal l ∧ hexVal l < (16 : Int) ^ n
  | 0, l, h, _ => by
    have : l = [] := List.eq_nil_of_length_eq_zero h
    subst this; simp [hexVal]
  | n + 1, l, h, ha => by
    rcases List.eq_nil_or_concat l with rfl | ⟨o, y, rfl⟩
    · simp at h
    · rw [List.concat_eq_append] at *
      have ih := hexVal_bd n o (by simpa using h) (fun c hc => ha c (by simp [hc]))
      have hd := hexDig_bd (ha y (by simp))
      rw [hexVal_snoc, Int.pow_succ]
      omega

theorem below_bytesWorld (w : World) (e : TypeId) (s : ByteArray) : Below w.heap.size w (Lib.bytesWorld w e s) := by
  refine ⟨?_, ?_, ?_, by rw [Lib.bytesWorld_size]; omega, fun k hk => Lib.bytesWorld_at_old w e s k hk⟩ <;> simp [Lib.bytesWorld, World.freeze, World.alloc, World.drew, -World.alloc_eq, -World.drew_eq]
theorem take_snoc_u8 {l : List UInt8} {k : Nat} {c : UInt8} (h : l[k]? = some c) : l.take (k + 1) = l.take k ++ [c] := by rw [List.take_add_one, h]; rfl

theorem notEmpty {s : ByteArray} (h0 : 0 < s.size) : s.toList.isEmpty = false := by
  rw [ByteArray.toList_eq]
  cases h : s.data.toList with
  | nil =>
    have h1 : s.data.toList.length = 0 := by rw [h]; rfl
    have h2 : s.size = s.data.size := rfl
    rw [Array.length_toList] at h1; omega
  | cons _ _ => rfl

set_option maxRecDepth 100000 in
set_option maxHeartbeats 1000000 in
theorem iParseUint_any (s : ByteArray) (w : World) (h0 : 0 < s.size) (h6 : s.size ≤ 6) (hs : allHex s.data.toList) :
    Calls Tryz.prog 210 #[.string s, .int .i64 16, .int .i64 32] w fun e w' => e = .returned (.tuple #[.int .u64 (hexVal s.data.toList), .nilIface]) ∧ Below w.heap.size w w' := by
  have Hs := Lib.hid hs
  clear hs
  have hcv := fun W => Lib.run_convert_string_bytes (P := Tryz.prog) W 9 66 5 s Tryz.underlying9 Tryz.underlying66 Tryz.underlying5
  have he := notEmpty h0
  go_enter Tryz.func210, Tryz.ntmps210
  go_wp2
  have hcell := fun j hj => Lib.bytesWorld_cell w 5 s j hj
  have hbw := below_bytesWorld w 5 s
  generalize Lib.bytesWorld w 5 s = w1 at hcell hbw ⊢
  have Hcell := Lib.hid hcell
  clear hcell hcv
  go_loop [12, 13, 101] (fun u v i => ∃ (k : Nat) (m : Int), u = .bool false ∧ k ≤ s.size ∧ v = .int .u64 m ∧ i = .int .i64 k ∧ Hid (m = hexVal (s.data.toList.take k)) ∧ 0 ≤ m ∧ m ≤ 16777215) (fun _ _ i => s.size - (intOf i).toNat)
  case atStart => exact ⟨0, 0, rfl, by omega, rfl, rfl, rfl, by omega, by omega⟩
  case round =>
    obtain ⟨k, m, rfl, hk, rfl, rfl, Hm, hm0, hm1⟩ := hrel
    by_cases hlt : k < s.size
    · obtain ⟨c, Hc⟩ : ∃ c, Hid (s.data.toList[k]? = some c) := ⟨_, Lib.hid (List.getElem?_eq_getElem (by simpa using hlt))⟩
      have hc := Hcell.out k hlt
      rw [List.getD_eq_getElem?_getD, Hc.out, Option.getD_some] at hc
      have HT := Lib.hid (take_snoc_u8 Hc.out)
      have Hh : Hid (isHexN (c.toNat : Int) = true) := Lib.hid (Hs.out c (List.mem_of_getElem? Hc.out))
      have hbm : m ≤ 1048575 := by
        have h1 := hexVal_bd k (s.data.toList.take k) (by simp; omega) (fun c hc => Hs.out c (List.mem_of_mem_take hc))
        rw [← Hm.out] at h1
        have : (16 : Int) ^ k ≤ 16 ^ 5 := by
          rcases (by omega : k = 0 ∨ k = 1 ∨ k = 2 ∨ k = 3 ∨ k = 4 ∨ k = 5) with h | h | h | h | h | h <;> rw [h] <;> decide
        omega
      have hcr := of_decide_eq_true Hh.out
      have hbd := hexDig_bd Hh.out
      have HV : Hid (hexVal (s.data.toList.take (k + 1)) = m * 16 + hexDig c.toNat) := Lib.hid (by rw [HT.out, hexVal_snoc, Hm.out])
      rcases hcr with ⟨h48, h57⟩ | ⟨h65, h70⟩
      · have hd : hexDig (c.toNat : Int) = c.toNat - 48 := if_pos h57
        have HV' : Hid (hexVal (s.data.toList.take (k + 1)) = m * 16 + (c.toNat - 48)) := Lib.hid (by rw [HV.out, hd])
        clear hd hbd
        go_wp2
        refine ⟨⟨k + 1, m * 16 + (c.toNat - 48), rfl, by omega, rfl, by go_num, Lib.hid HV'.out.symm, by omega, by omega⟩, ?_⟩
        simp [intOf]; omega
      · have hd : hexDig (c.toNat : Int) = c.toNat - 55 := if_neg (by omega)
        have HV' : Hid (hexVal (s.data.toList.take (k + 1)) = m * 16 + (c.toNat - 55)) := Lib.hid (by rw [HV.out, hd])
        clear hd hbd
        go_wp2_with (go_at_call 215; go_must (refine (ilower_any c.toNat _ h65 h70).mono ?_); rintro e w' ⟨rfl, rfl⟩)
        refine ⟨⟨k + 1, m * 16 + (c.toNat + 32 - 97 + 10), rfl, by omega, rfl, by go_num, Lib.hid (by rw [HV'.out]; omega), by omega, by omega⟩, ?_⟩
        simp [intOf]; omega
    · have HE : Hid (m = hexVal s.data.toList) := Lib.hid (by rw [Hm.out, List.take_of_length_le (by simp; omega)])
      go_wp2
      go_ret2
      exact ⟨by rw [HE.out]; rfl, hbw⟩

set_option maxRecDepth 100000 in
set_option maxHeartbeats 1000000 in
theorem iParseInt_any (s : ByteArray) (w : World) (h0 : 0 < s.size) (h6 : s.size ≤ 6) (hs : allHex s.data.toList) :
    Calls Tryz.prog 203 #[.string s, .int .i64 16, .int .i64 32] w fun e w' => e = .returned (.tuple #[.int .i64 (hexVal s.data.toList), .nilIface]) ∧ Below w.heap.size w w' := by
  have hbd := hexVal_bd s.size s.data.toList rfl hs
  have hb2 : hexVal s.data.toList ≤ 16777215 := by
    have : (16 : Int) ^ s.size ≤ 16777216 := by
      rcases (by omega : s.size = 1 ∨ s.size = 2 ∨ s.size = 3 ∨ s.size = 4 ∨ s.size = 5 ∨ s.size = 6) with h | h | h | h | h | h <;> rw [h] <;> decide
    omega
  have hb1 := hbd.1
  clear hbd
  have he := notEmpty h0
  have hc : (48 ≤ ((s[0]'h0).toNat : Int) ∧ ((s[0]'h0).toNat : Int) ≤ 57) ∨ (65 ≤ ((s[0]'h0).toNat : Int) ∧ ((s[0]'h0).toNat : Int) ≤ 70) :=
    of_decide_eq_true (hs (s[0]'h0) (by rw [show s[0]'h0 = s.data.toList[0]'(by simpa using h0) from rfl]; exact List.getElem_mem _))
  have h43 : (((s[0]'h0).toNat : Int) == 43) = false := beq_eq_false_iff_ne.2 (by omega)
  have h45 : (((s[0]'h0).toNat : Int) == 45) = false := beq_eq_false_iff_ne.2 (by omega)
  clear hc
  have Hs := Lib.hid hs
  clear hs
  have hP := fun W => iParseUint_any s W h0 h6 Hs.out
  generalize hexVal s.data.toList = V at hb1 hb2 hP ⊢
  have HP := Lib.hid hP
  clear hP
  go_enter Tryz.func203, Tryz.ntmps203
  go_wp2_with fail
  refine (HP.out _).mono ?_
  rintro e w1 ⟨rfl, hb⟩
  go_wp2
  go_ret2
  exact ⟨rfl, hb⟩

set_option maxHeartbeats 400000 in
theorem lParseInt_any (s : ByteArray) (w : World) (h0 : 0 < s.size) (h6 : s.size ≤ 6) (hs : allHex s.data.toList) :
    Calls Tryz.prog 194 #[.string s, .int .i64 16, .int .i64 32] w fun e w' => e = .returned (.tuple #[.int .i64 (hexVal s.data.toList), .nilIface]) ∧ Below w.heap.size w w' := by
  have hP := fun W => iParseInt_any s W h0 h6 hs
  generalize hexVal s.data.toList = V at hP ⊢
  have HP := Lib.hid hP
  clear hP hs
  go_enter Tryz.func194, Tryz.ntmps194
  go_wp2_with fail
  refine (HP.out _).mono ?_
  rintro e w1 ⟨rfl, hb⟩
  go_wp2
  go_ret2
  exact ⟨rfl, hb⟩
end Go.Proofs.YtejccafolfeabaaGreatDoor

/-
  PLAIN: what a spelling of a rune, an item, a whole text says: or the error and its place. No walk.
-/
namespace Go.Proofs.YtejccafolfeabaaGreatDoor

/-- A text's bytes from a place on. -/
def rest (s : ByteArray) (a : Nat) : List UInt8 := s.data.toList.drop a
def hexRun (s : ByteArray) (a : Nat) : List UInt8 := (rest s a).takeWhile fun c => isHexN (c.toNat : Int)
/-- The first rune from a place on, and its width (0: there is none). -/
def runeAt (s : ByteArray) (a : Nat) : Nat × Nat := if a < s.size then Utf8.decode s a else (65533, 0)

def numP (s : ByteArray) (a : Nat) : Except (Int × Nat) (Int × Nat) :=
  if (hexRun s (a + 2)).length < 4 ∨ 6 < (hexRun s (a + 2)).length then .error (21, a)
  else if 1114111 < hexVal (hexRun s (a + 2)) then .error (22, a)
  else .ok (hexVal (hexRun s (a + 2)), a + 2 + (hexRun s (a + 2)).length)
def quoP (s : ByteArray) (a : Nat) : Except (Int × Nat) (Int × Nat) :=
  if (runeAt s (a + 1)).2 = 0 then .error (21, a)
  else if (rest s (a + 1 + (runeAt s (a + 1)).2)).head? ≠ some 39 then .error (21, a)
  else if (runeAt s (a + 1)).1 = 65533 ∧ (runeAt s (a + 1)).2 = 1 then .error (23, a + 1)
  else .ok ((runeAt s (a + 1)).1, a + 2 + (runeAt s (a + 1)).2)
def runeP (s : ByteArray) (a : Nat) : Except (Int × Nat) (Int × Nat) :=
  if [85, 43].isPrefixOf (rest s a) then numP s a else if [39].isPrefixOf (rest s a) then quoP s a else .error (21, a)
def itemP (s : ByteArray) (a : Nat) : Except (Int × Nat) ((Int × Int) × Nat) :=
  match runeP s a with
  | .error e => .error e
  | .ok (lo, p) =>
    match (if (rest s p).head? = some 45 then runeP s (p + 1) else .ok (lo, p)) with
    | .error e => .error e
    | .ok (hi, q) => if hi < lo then .error (20, a) else if (rest s q).head? ≠ none ∧ (rest s q).head? ≠ some 32 then .error (21, q) else .ok ((lo, hi), q)
def parseGo (s : ByteArray) : Nat → Nat → List (Int × Int) → Except (Int × Nat) (List (Int × Int))
  | 0, _, l => .ok l
  | f + 1, a, l =>
    match (rest s a).head? with
    | none => .ok l
    | some c => if c = 32 then parseGo s f (a + 1) l else
      match itemP s a with
      | .error e => .error e
      | .ok (x, q) => parseGo s f q (l ++ [x])
def parseP (s : ByteArray) : Except (Int × Nat) (List (Int × Int)) := parseGo s (s.size + 1) 0 []

theorem size_data (s : ByteArray) : s.data.toList.length = s.size := by rw [Array.length_toList]; rfl
theorem rest_head {s : ByteArray} {a : Nat} (h : a < s.size) : (rest s a).head? = some (s[a]'h) := by
  unfold rest; rw [List.head?_drop, List.getElem?_eq_getElem (by rw [size_data]; exact h)]; rfl
theorem rest_none {s : ByteArray} {a : Nat} (h : s.size ≤ a) : rest s a = [] := List.drop_of_length_le (by rw [size_data]; exact h)
theorem rest_cons {s : ByteArray} {a : Nat} (h : a < s.size) : rest s a = s[a]'h :: rest s (a + 1) := by
  unfold rest; rw [List.drop_eq_getElem_cons (by rw [size_data]; exact h)]; rfl
theorem hexRun_cons {s : ByteArray} {a : Nat} (h : a < s.size) : hexRun s a = if isHexN ((s[a]'h).toNat : Int) then s[a]'h :: hexRun s (a + 1) else [] := by
  unfold hexRun; rw [rest_cons h, List.takeWhile_cons]
theorem hexRun_none {s : ByteArray} {a : Nat} (h : s.size ≤ a) : hexRun s a = [] := by unfold hexRun; rw [rest_none h]; rfl
theorem hexRun_all (s : ByteArray) (a : Nat) : allHex (hexRun s a) := fun c hc => by
  unfold hexRun at hc
  generalize rest s a = l at hc
  induction l with
  | nil => simp at hc
  | cons x l ih =>
    rw [List.takeWhile_cons] at hc
    split at hc
    · rename_i hx
      rcases List.mem_cons.1 hc with rfl | hc
      · exact hx
      · exact ih hc
    · simp at hc
theorem hexRun_le (s : ByteArray) (a : Nat) (h : a ≤ s.size) : a + (hexRun s a).length ≤ s.size := by
  have h1 : (hexRun s a).length ≤ (rest s a).length := (List.takeWhile_sublist _).length_le
  unfold rest at h1; rw [List.length_drop, size_data] at h1; omega
theorem hexRun_extract (s : ByteArray) (a : Nat) : (s.extract a (a + (hexRun s a).length)).data.toList = hexRun s a := by
  rw [Lib.extract_data, Nat.add_sub_cancel_left]
  exact (List.prefix_iff_eq_take.1 (List.takeWhile_prefix _)).symm

/-- The decoder's width and rune. -/
theorem dec_bd (s : ByteArray) (i : Nat) (h : i < s.size) : 1 ≤ (Utf8.decode s i).2 ∧ (Utf8.decode s i).2 ≤ 4 ∧ i + (Utf8.decode s i).2 ≤ s.size ∧ (Utf8.decode s i).1 ≤ 1114111 := by
  unfold Utf8.decode
  simp only [Bool.and_eq_true, beq_iff_eq, decide_eq_true_eq]
  have hb : ∀ k, (s.get! (i + k)).toNat < 256 := fun k => (s.get! (i + k)).toNat_lt
  have h0 := hb 0; have h1 := hb 1; have h2 := hb 2; have h3 := hb 3
  generalize (s.get! (i + 0)).toNat = b0 at *
  generalize (s.get! (i + 1)).toNat = b1 at *
  generalize (s.get! (i + 2)).toNat = b2 at *
  generalize (s.get! (i + 3)).toNat = b3 at *
  split
  · simp only; omega
  · split
    · split <;> simp only [Utf8.runeError] <;> omega
    · split
      · split <;> simp only [Utf8.runeError] <;> omega
      · split
        · split
          · rename_i hv
            have : Utf8.valid (b0 % 8 * 262144 + b1 % 64 * 4096 + b2 % 64 * 64 + b3 % 64) = true := hv.2
            unfold Utf8.valid at this
            simp at this
            simp only; omega
          · simp only [Utf8.runeError]; omega
        · simp only [Utf8.runeError]; omega
theorem runeAt_bd (s : ByteArray) (a : Nat) (h : a ≤ s.size) : (runeAt s a).2 ≤ 4 ∧ a + (runeAt s a).2 ≤ s.size ∧ (runeAt s a).1 ≤ 1114111 := by
  unfold runeAt
  split
  · rename_i h; have := dec_bd s a h; omega
  · simp only; omega
end Go.Proofs.YtejccafolfeabaaGreatDoor

/-
  PLAIN: what a spelling that is read leaves behind it; what Parse hands back.
-/
namespace Go.Proofs.YtejccafolfeabaaGreatDoor

theorem rest_len (s : ByteArray) (a : Nat) : (rest s a).length = s.size - a := by unfold rest; rw [List.length_drop, size_data]
theorem byte_ne {x : UInt8} {n : Nat} (h : ¬ x = UInt8.ofNat n) (hn : n < 256 := by decide) : ((x.toNat : Int) != (n : Int)) = true := by
  rw [bne_iff_ne]; intro e
  exact h (UInt8.toNat_inj.1 (by rw [show x.toNat = n by omega]; exact (UInt8.toNat_ofNat_of_lt' hn).symm))
theorem numP_ok {s : ByteArray} {a q : Nat} {r : Int} (ha : a + 2 ≤ s.size) (h : numP s a = .ok (r, q)) : a < q ∧ q ≤ s.size ∧ 0 ≤ r ∧ r ≤ 1114111 := by
  unfold numP at h
  have h1 := hexRun_le s (a + 2) ha
  have h2 := (hexVal_bd _ (hexRun s (a + 2)) rfl (hexRun_all s _)).1
  split at h
  · cases h
  · split at h
    · cases h
    · injection h with h; injection h with h3 h4; subst h3; subst h4; omega
theorem quoP_ok' {s : ByteArray} {a q : Nat} {r : Int} (ha : a + 1 ≤ s.size) (h : quoP s a = .ok (r, q)) : a < q ∧ q ≤ s.size ∧ 0 ≤ r ∧ r ≤ 1114111 := by
  unfold quoP at h
  obtain ⟨h1, h2, h3⟩ := runeAt_bd s (a + 1) ha
  split at h
  · cases h
  · split at h
    · cases h
    · rename_i hq
      split at h
      · cases h
      · injection h with h; injection h with h4 h5; subst h4; subst h5
        have : a + 1 + (runeAt s (a + 1)).2 < s.size := by
          rcases Nat.lt_or_ge (a + 1 + (runeAt s (a + 1)).2) s.size with hlt | hge
          · exact hlt
          · rw [rest_none hge] at hq; simp at hq
        omega
theorem runeP_ok {s : ByteArray} {a q : Nat} {r : Int} (h : runeP s a = .ok (r, q)) : a < q ∧ q ≤ s.size ∧ 0 ≤ r ∧ r ≤ 1114111 := by
  unfold runeP at h
  split at h
  · rename_i h1
    have := (List.isPrefixOf_iff_prefix.1 h1).length_le
    rw [rest_len] at this; simp at this
    exact numP_ok (by omega) h
  · split at h
    · rename_i h1
      have := (List.isPrefixOf_iff_prefix.1 h1).length_le
      rw [rest_len] at this; simp at this
      exact quoP_ok' (by omega) h
    · cases h

/-- What Parse hands back. -/
def ParseEnd (base : Nat) (r : Except (Int × Nat) (List (Int × Int))) (e : Ending) (w' : World) : Prop :=
  match r with
  | .error x => e = .returned (.tuple #[.slice none 0 0, .int .i64 x.1, .int .i64 x.2])
  | .ok l => ∃ A n c, e = .returned (.tuple #[.slice A n c, .int .i64 0, .int .i64 0]) ∧ Own w' base 80 2 A n c ((normR l).map encR)
theorem ParseEnd.err {base : Nat} {r : Except (Int × Nat) (List (Int × Int))} {x : Int × Nat} {w' : World} (h : r = .error x) :
    ParseEnd base r (.returned (.tuple #[.slice none 0 0, .int .i64 x.1, .int .i64 x.2])) w' := by rw [h]; exact rfl
theorem ParseEnd.fine {base : Nat} {r : Except (Int × Nat) (List (Int × Int))} {l : List (Int × Int)} {w' : World} {A : Option Addr} {n c : Nat} (h : r = .ok l) (ho : Own w' base 80 2 A n c ((normR l).map encR)) :
    ParseEnd base r (.returned (.tuple #[.slice A n c, .int .i64 0, .int .i64 0])) w' := by rw [h]; exact ⟨_, _, _, rfl, ho⟩

theorem itemP_ok {s : ByteArray} {a q : Nat} {x : Int × Int} (h : itemP s a = .ok (x, q)) : a < q ∧ q ≤ s.size := by
  unfold itemP at h
  cases h1 : runeP s a with
  | error e => rw [h1] at h; cases h
  | ok y =>
    obtain ⟨lo, p⟩ := y
    have b1 := runeP_ok h1
    rw [h1] at h
    by_cases h45 : (rest s p).head? = some 45
    · simp only [h45, if_true] at h
      cases h2 : runeP s (p + 1) with
      | error e => rw [h2] at h; cases h
      | ok z =>
        obtain ⟨hi, q'⟩ := z
        have b2 := runeP_ok h2
        rw [h2] at h
        simp only at h
        split at h
        · cases h
        · split at h
          · cases h
          · cases h; omega
    · simp only [h45, if_false] at h
      split at h
      · cases h
      · split at h
        · cases h
        · cases h; omega
theorem runeP_err {s : ByteArray} {a p : Nat} {e : Int} (h : runeP s a = .error (e, p)) : 21 ≤ e ∧ e ≤ 23 ∧ p ≤ a + 1 := by
  unfold runeP numP quoP at h
  repeat' split at h
  all_goals first
    | (injection h with h; injection h with h1 h2; subst h1; subst h2; omega)
    | cases h
end Go.Proofs.YtejccafolfeabaaGreatDoor

/-
  PLAIN: lines of a database: where a remark begins, where a line is parted; blanks at both ends. No walk.
-/
namespace Go.Proofs.YtejccafolfeabaaGreatDoor

def bytesOf (l : List UInt8) : ByteArray := ⟨l.toArray⟩
theorem bytesOf_list (l : List UInt8) : (bytesOf l).data.toList = l := by simp [bytesOf]
theorem bytesOf_size (l : List UInt8) : (bytesOf l).size = l.length := by rw [← size_data, bytesOf_list]
theorem bytesOf_get (l : List UInt8) (k : Nat) : (bytesOf l).get! k = l.getD k 0 := by rw [← Lib.getD_get!', bytesOf_list]
theorem bytesOf_data (s : ByteArray) : bytesOf s.data.toList = s := by simp [bytesOf]

/-- How many bytes a rune in quotes has at the beginning. -/
def qtL : List UInt8 → Option Nat
  | [] => none
  | c :: r => if c = 39 ∧ r ≠ [] ∧ r[(Utf8.decode (bytesOf r) 0).2]? = some 39 then some ((Utf8.decode (bytesOf r) 0).2 + 2) else none
theorem qtL_cons (c : UInt8) (r : List UInt8) : qtL (c :: r) = if c = 39 ∧ r ≠ [] ∧ r[(Utf8.decode (bytesOf r) 0).2]? = some 39 then some ((Utf8.decode (bytesOf r) 0).2 + 2) else none := rfl
theorem decL_bd {r : List UInt8} (h : r ≠ []) : 1 ≤ (Utf8.decode (bytesOf r) 0).2 ∧ (Utf8.decode (bytesOf r) 0).2 ≤ 4 ∧ (Utf8.decode (bytesOf r) 0).2 ≤ r.length := by
  have hl : 0 < (bytesOf r).size := by rw [bytesOf_size]; exact List.length_pos_iff.2 h
  have := dec_bd (bytesOf r) 0 hl
  rw [bytesOf_size] at this
  omega
theorem qtL_some {l : List UInt8} {k : Nat} (h : qtL l = some k) : 3 ≤ k ∧ k ≤ 6 ∧ k ≤ l.length ∧ l[0]? = some 39 ∧ l[k - 1]? = some 39 := by
  cases l with
  | nil => simp [qtL] at h
  | cons c r =>
    rw [qtL_cons] at h
    split at h
    · rename_i hc
      obtain ⟨rfl, h2, h3⟩ := hc
      injection h with h
      have hd := decL_bd h2
      have hlt := (List.getElem?_eq_some_iff.1 h3).1
      refine ⟨by omega, by omega, by simp only [List.length_cons]; omega, rfl, ?_⟩
      rw [← h, show (Utf8.decode (bytesOf r) 0).2 + 2 - 1 = (Utf8.decode (bytesOf r) 0).2 + 1 by omega, List.getElem?_cons_succ]
      exact h3
    · cases h
theorem decN_39 {n m b0 b1 b2 b3 c1 c2 c3 R W : Nat} (h : Lib.decodeN n b0 b1 b2 b3 = (R, W)) (hn : W + 1 ≤ n) (hm : W + 1 ≤ m) (hW : 1 ≤ W) (h1 : c1 = b1) (h2 : 2 ≤ W → c2 = b2) (h3 : 3 ≤ W → c3 = b3) (q1 : W = 1 → b1 = 39) :
    Lib.decodeN m b0 c1 c2 c3 = (R, W) := by
  subst h1
  unfold Lib.decodeN at h
  split at h
  · rename_i g0
    injection h with hR hW'
    subst hR; subst hW'
    unfold Lib.decodeN; rw [if_pos g0]
  · rename_i g0
    split at h
    · rename_i g1
      split at h
      · rename_i g2
        injection h with hR hW'
        subst hR; subst hW'
        unfold Lib.decodeN; rw [if_neg g0, if_pos ⟨g1.1, by omega, g1.2.2⟩, if_pos g2]
      · injection h with hR hW'
        subst hW'
        have := q1 rfl
        omega
    · rename_i g1
      split at h
      · rename_i g2
        split at h
        · rename_i g3
          injection h with hR hW'
          subst hR; subst hW'
          obtain rfl := h2 (by omega)
          unfold Lib.decodeN; rw [if_neg g0, if_neg (by omega), if_pos ⟨g2.1, ⟨by omega, g2.2.1.2⟩, by omega, g2.2.2.2⟩, if_pos g3]
        · injection h with hR hW'
          subst hW'
          have := q1 rfl
          omega
      · rename_i g2
        split at h
        · rename_i g3
          split at h
          · rename_i g4
            injection h with hR hW'
            subst hR; subst hW'
            obtain rfl := h2 (by omega)
            obtain rfl := h3 (by omega)
            unfold Lib.decodeN; rw [if_neg g0, if_neg (by omega), if_neg (by omega), if_pos ⟨g3.1, ⟨by omega, g3.2.1.2⟩, ⟨by omega, g3.2.2.1.2⟩, by omega, g3.2.2.2.2⟩, if_pos g4]
          · injection h with hR hW'
            subst hW'
            have := q1 rfl
            omega
        · injection h with hR hW'
          subst hR; subst hW'
          have := q1 rfl
          subst this
          unfold Lib.decodeN; rw [if_neg g0, if_neg (by omega), if_neg (by omega), if_neg (by omega)]
/-- Whether a rune in quotes stands at the beginning hangs on its own bytes alone. -/
theorem qtL_same {l m : List UInt8} {k : Nat} (h : qtL l = some k) (hm : l.take k = m.take k) : qtL m = some k := by
  have hq := qtL_some h
  have hml : k ≤ m.length := by
    have := congrArg List.length hm
    rw [List.length_take, List.length_take] at this; omega
  have hg : ∀ i, i < k → m[i]? = l[i]? := fun i hi => by
    have := congrArg (·[i]?) hm
    simp only [List.getElem?_take_of_lt hi] at this
    exact this.symm
  cases l with
  | nil => simp [qtL] at h
  | cons c r =>
    cases m with
    | nil => simp at hml; omega
    | cons d q =>
      have h0 := hg 0 (by omega)
      simp only [List.getElem?_cons_zero, Option.some.injEq] at h0
      subst h0
      rw [qtL_cons] at h ⊢
      split at h
      · rename_i hc
        obtain ⟨rfl, h2, h3⟩ := hc
        injection h with h
        have hd := decL_bd h2
        have hr : ∀ i, i + 1 < k → q[i]? = r[i]? := fun i hi => by
          have := hg (i + 1) hi
          rwa [List.getElem?_cons_succ, List.getElem?_cons_succ] at this
        have hgd : ∀ i, i + 1 < k → q.getD i 0 = r.getD i 0 := fun i hi => by
          rw [List.getD_eq_getElem?_getD, List.getD_eq_getElem?_getD, hr i hi]
        have hlr := (List.getElem?_eq_some_iff.1 h3).1
        have hlq : k ≤ q.length + 1 := by simpa using hml
        have hqne : q ≠ [] := by intro e; subst e; simp at hlq; omega
        have hsame : Utf8.decode (bytesOf q) 0 = Utf8.decode (bytesOf r) 0 := by
          obtain ⟨⟨R, W⟩, hD⟩ : ∃ d, Utf8.decode (bytesOf r) 0 = d := ⟨_, rfl⟩
          rw [hD] at hd h h3 hlr ⊢
          simp only at hd h h3 hlr
          rw [Lib.decode_at] at hD ⊢
          simp only [bytesOf_get, bytesOf_size, Nat.zero_add, Nat.sub_zero] at hD ⊢
          rw [hgd 0 (by omega)]
          refine decN_39 hD (by omega) (by omega) hd.1 (by rw [hgd 1 (by omega)]) (fun h => by rw [hgd 2 (by omega)]) (fun h => by rw [hgd 3 (by omega)]) (fun h1 => ?_)
          subst h1
          rw [List.getD_eq_getElem?_getD, h3]; rfl
        rw [hsame, if_pos ⟨rfl, hqne, by rw [hr _ (by omega)]; exact h3⟩, h]
      · cases h
theorem qtL_take {l : List UInt8} {k h : Nat} (hq : qtL l = some k) (hk : k ≤ h) : qtL (l.take h) = some k := qtL_same hq (by rw [List.take_take, Nat.min_eq_left hk])
theorem qtL_of_take {l : List UInt8} {k h : Nat} (hq : qtL (l.take h) = some k) : qtL l = some k := by
  have h1 := (qtL_some hq).2.2.1
  refine qtL_same hq ?_
  rw [List.take_take, Nat.min_eq_left]
  rw [List.length_take] at h1; omega
theorem qtL_append {l m : List UInt8} {k : Nat} (hq : qtL l = some k) : qtL (l ++ m) = some k :=
  qtL_same hq (by rw [List.take_append_of_le_length (qtL_some hq).2.2.1])

/-- The first of a byte that stands in no quotes. -/
def findL (c : UInt8) : Nat → List UInt8 → Option Nat
  | 0, _ => none
  | _ + 1, [] => none
  | f + 1, x :: r => match qtL (x :: r) with
    | some k => (findL c f ((x :: r).drop k)).map (· + k)
    | none => if x = c then some 0 else (findL c f r).map (· + 1)
def findP (c : UInt8) (l : List UInt8) : Option Nat := findL c l.length l
theorem findL_fuel (c : UInt8) : ∀ (f g : Nat) (l : List UInt8), l.length ≤ f → l.length ≤ g → findL c f l = findL c g l
  | 0, g, l, hf, _ => by
    have : l = [] := List.eq_nil_of_length_eq_zero (by omega)
    subst this
    cases g <;> rfl
  | f + 1, 0, l, _, hg => by
    have : l = [] := List.eq_nil_of_length_eq_zero (by omega)
    subst this; rfl
  | f + 1, g + 1, [], _, _ => rfl
  | f + 1, g + 1, x :: r, hf, hg => by
    simp only [List.length_cons] at hf hg
    unfold findL
    cases hq : qtL (x :: r) with
    | some k =>
      have := qtL_some hq
      simp only
      rw [findL_fuel c f g _ (by rw [List.length_drop, List.length_cons]; omega) (by rw [List.length_drop, List.length_cons]; omega)]
    | none => simp only; rw [findL_fuel c f g r (by omega) (by omega)]
theorem findP_nil (c : UInt8) : findP c [] = none := rfl
theorem findP_qt {c : UInt8} {l : List UInt8} {k : Nat} (h : qtL l = some k) : findP c l = (findP c (l.drop k)).map (· + k) := by
  cases l with
  | nil => simp [qtL] at h
  | cons x r =>
    have := qtL_some h
    unfold findP
    rw [List.length_cons]
    show (match qtL (x :: r) with | some k => _ | none => _) = _
    rw [h]
    simp only
    rw [findL_fuel c r.length ((x :: r).drop k).length _ (by rw [List.length_drop, List.length_cons]; omega) (Nat.le_refl _)]
theorem findP_cons {c x : UInt8} {r : List UInt8} (h : qtL (x :: r) = none) : findP c (x :: r) = if x = c then some 0 else (findP c r).map (· + 1) := by
  unfold findP
  rw [List.length_cons]
  show (match qtL (x :: r) with | some k => _ | none => _) = _
  rw [h]
theorem findP_lt {c : UInt8} : ∀ (n : Nat) (l : List UInt8), l.length ≤ n → ∀ i, findP c l = some i → l[i]? = some c
  | 0, l, hn, i, h => by
    have : l = [] := List.eq_nil_of_length_eq_zero (by omega)
    subst this; simp [findP_nil] at h
  | n + 1, [], _, i, h => by simp [findP_nil] at h
  | n + 1, x :: r, hn, i, h => by
    cases hq : qtL (x :: r) with
    | some k =>
      have := qtL_some hq
      rw [findP_qt hq] at h
      obtain ⟨j, hj, rfl⟩ := Option.map_eq_some_iff.1 h
      have ih := findP_lt n _ (by rw [List.length_drop, List.length_cons]; simp at hn; omega) j hj
      rw [List.getElem?_drop] at ih
      rw [Nat.add_comm]; exact ih
    | none =>
      rw [findP_cons hq] at h
      split at h
      · rename_i hx
        injection h with h; subst h; subst hx; rfl
      · obtain ⟨j, hj, rfl⟩ := Option.map_eq_some_iff.1 h
        rw [List.getElem?_cons_succ]
        exact findP_lt n r (by simpa using hn) j hj

def blkB (c : UInt8) : Bool := c == 32 || c == 9
/-- Without blanks at both ends. -/
def trimL (l : List UInt8) : List UInt8 := ((l.dropWhile blkB).reverse.dropWhile blkB).reverse
theorem qtL_blank {x : UInt8} {r : List UInt8} (h : blkB x = true) : qtL (x :: r) = none := by
  rw [qtL_cons, if_neg]
  rintro ⟨rfl, _⟩
  simp [blkB] at h
theorem qtL_blanks : ∀ {l : List UInt8}, (∀ c ∈ l, blkB c = true) → qtL l = none
  | [], _ => rfl
  | x :: _, h => qtL_blank (h x (by simp))
theorem findP_blanks {c : UInt8} (hc : blkB c = false) : ∀ {l : List UInt8}, (∀ d ∈ l, blkB d = true) → findP c l = none
  | [], _ => rfl
  | x :: r, h => by
    rw [findP_cons (qtL_blank (h x (by simp))), if_neg (by rintro rfl; rw [h x (by simp)] at hc; cases hc), findP_blanks hc (fun d hd => h d (by simp [hd]))]; rfl
/-- Blanks ahead move the place alone. -/
theorem findP_lead {c : UInt8} (hc : blkB c = false) : ∀ (b l : List UInt8), (∀ d ∈ b, blkB d = true) → findP c (b ++ l) = (findP c l).map (· + b.length)
  | [], l, _ => by simp
  | x :: b, l, h => by
    rw [List.cons_append, findP_cons (qtL_blank (h x (by simp))), if_neg (by rintro rfl; rw [h x (by simp)] at hc; cases hc), findP_lead hc b l (fun d hd => h d (by simp [hd])), Option.map_map]
    congr 1
theorem qtL_tail {l b : List UInt8} (hb : ∀ d ∈ b, blkB d = true) (hl : qtL l = none) : qtL (l ++ b) = none := by
  cases hq : qtL (l ++ b) with
  | none => rfl
  | some k =>
    have h1 := qtL_some hq
    have hk : k ≤ l.length := by
      rcases Nat.lt_or_ge (k - 1) l.length with h | h
      · omega
      · have h2 := h1.2.2.2.2
        rw [List.getElem?_append_right h] at h2
        have := hb _ (List.mem_of_getElem? h2)
        simp [blkB] at this
    have : qtL l = some k := qtL_same hq (by rw [List.take_append_of_le_length hk])
    rw [hl] at this; cases this
/-- Blanks behind change nothing. -/
theorem findP_trail {c : UInt8} (hc : blkB c = false) : ∀ (n : Nat) (l b : List UInt8), l.length ≤ n → (∀ d ∈ b, blkB d = true) → findP c (l ++ b) = findP c l
  | _, [], b, _, hb => by rw [List.nil_append, findP_blanks hc hb]; rfl
  | 0, x :: r, _, h, _ => by simp at h
  | n + 1, x :: r, b, hn, hb => by
    cases hq : qtL (x :: r) with
    | some k =>
      have h1 := qtL_some hq
      rw [findP_qt (qtL_append hq), findP_qt hq, List.drop_append_of_le_length h1.2.2.1, findP_trail hc n _ b (by rw [List.length_drop]; simp only [List.length_cons] at hn ⊢; omega) hb]
    | none =>
      have h1 := qtL_tail hb hq
      rw [List.cons_append] at h1 ⊢
      rw [findP_cons h1, findP_cons hq, findP_trail hc n r b (by simpa using hn) hb]
end Go.Proofs.YtejccafolfeabaaGreatDoor

/-
  PLAIN: a line of a database as the document parts it, and as the program does: the same. No walk.
-/
namespace Go.Proofs.YtejccafolfeabaaGreatDoor

/- Blanks at both ends. -/
def trimR (l : List UInt8) : List UInt8 := (l.reverse.dropWhile blkB).reverse
theorem trimL_eq (l : List UInt8) : trimL l = trimR (l.dropWhile blkB) := rfl
theorem dropWhile_all {p : UInt8 → Bool} : ∀ {l : List UInt8}, (∀ c ∈ l, p c = true) → l.dropWhile p = []
  | [], _ => rfl
  | x :: r, h => by rw [List.dropWhile_cons, if_pos (h x (by simp)), dropWhile_all (fun c hc => h c (by simp [hc]))]
theorem dropWhile_app {p : UInt8 → Bool} : ∀ {b l : List UInt8}, (∀ c ∈ b, p c = true) → (b ++ l).dropWhile p = l.dropWhile p
  | [], _, _ => rfl
  | x :: b, l, h => by rw [List.cons_append, List.dropWhile_cons, if_pos (h x (by simp)), dropWhile_app (fun c hc => h c (by simp [hc]))]
theorem dropWhile_stop {p : UInt8 → Bool} {x : UInt8} {r : List UInt8} (h : p x = false) : (x :: r).dropWhile p = x :: r := by
  rw [List.dropWhile_cons, if_neg (by rw [h]; decide)]
/-- Neither its first byte nor its last one is a blank. -/
def Bare (u : List UInt8) : Prop := u = [] ∨ (∃ x, u.head? = some x ∧ blkB x = false) ∧ ∃ y, u.getLast? = some y ∧ blkB y = false
theorem bare_head {u : List UInt8} (h : Bare u) : u.dropWhile blkB = u := by
  rcases h with rfl | ⟨⟨x, hx, hb⟩, _⟩
  · rfl
  · cases u with
    | nil => simp at hx
    | cons y r => simp at hx; subst hx; exact dropWhile_stop hb
theorem bare_last {u : List UInt8} (h : Bare u) : trimR u = u := by
  unfold trimR
  have : u.reverse.dropWhile blkB = u.reverse := by
    rcases h with rfl | ⟨_, ⟨y, hy, hb⟩⟩
    · rfl
    · rcases List.eq_nil_or_concat u with rfl | ⟨o, z, rfl⟩
      · simp at hy
      · rw [List.concat_eq_append] at hy ⊢
        simp at hy; subst hy
        rw [List.reverse_append, List.reverse_singleton, List.singleton_append]
        exact dropWhile_stop hb
  rw [this, List.reverse_reverse]
theorem trimR_app {l e : List UInt8} (he : ∀ c ∈ e, blkB c = true) : trimR (l ++ e) = trimR l := by
  unfold trimR
  rw [List.reverse_append, dropWhile_app (fun c hc => he c (List.mem_reverse.1 hc))]
theorem trim_unique {b u e : List UInt8} (hb : ∀ c ∈ b, blkB c = true) (he : ∀ c ∈ e, blkB c = true) (hu : Bare u) : trimL (b ++ u ++ e) = u := by
  rw [trimL_eq, List.append_assoc, dropWhile_app hb]
  by_cases h0 : u = []
  · subst h0
    rw [List.nil_append, dropWhile_all he]; rfl
  · have hne : (u ++ e).dropWhile blkB = u ++ e := by
      rcases hu with h | ⟨⟨x, hx, hb⟩, _⟩
      · exact absurd h h0
      · cases u with
        | nil => simp at hx
        | cons y r => simp at hx; subst hx; rw [List.cons_append]; exact dropWhile_stop hb
    rw [hne, trimR_app he, bare_last hu]
theorem takeWhile_all {p : UInt8 → Bool} : ∀ (l : List UInt8), ∀ c ∈ l.takeWhile p, p c = true
  | [], c, h => by simp at h
  | x :: r, c, h => by
    rw [List.takeWhile_cons] at h
    split at h
    · rename_i hx
      rcases List.mem_cons.1 h with rfl | h
      · exact hx
      · exact takeWhile_all r c h
    · simp at h
theorem dropWhile_head {p : UInt8 → Bool} : ∀ (l : List UInt8), l.dropWhile p = [] ∨ ∃ x, (l.dropWhile p).head? = some x ∧ p x = false
  | [] => .inl rfl
  | x :: r => by
    rw [List.dropWhile_cons]
    cases hx : p x with
    | true => rw [if_pos rfl]; exact dropWhile_head r
    | false => rw [if_neg (by decide)]; exact .inr ⟨x, rfl, hx⟩
theorem trimR_parts (l : List UInt8) : ∃ e, l = trimR l ++ e ∧ (∀ c ∈ e, blkB c = true) ∧ (trimR l = [] ∨ ∃ y, (trimR l).getLast? = some y ∧ blkB y = false) := by
  refine ⟨(l.reverse.takeWhile blkB).reverse, ?_, fun c hc => takeWhile_all _ c (List.mem_reverse.1 hc), ?_⟩
  · unfold trimR
    rw [← List.reverse_append, List.takeWhile_append_dropWhile, List.reverse_reverse]
  · unfold trimR
    rcases dropWhile_head (p := blkB) l.reverse with h | ⟨x, h1, h2⟩
    · rw [h]; exact .inl rfl
    · exact .inr ⟨x, by rw [List.getLast?_reverse]; exact h1, h2⟩
theorem trimL_parts (l : List UInt8) : ∃ b e, l = b ++ trimL l ++ e ∧ (∀ c ∈ b, blkB c = true) ∧ (∀ c ∈ e, blkB c = true) ∧ Bare (trimL l) := by
  obtain ⟨e, h1, h2, h3⟩ := trimR_parts (l.dropWhile blkB)
  refine ⟨l.takeWhile blkB, e, ?_, takeWhile_all l, h2, ?_⟩
  · rw [List.append_assoc, trimL_eq, ← h1, List.takeWhile_append_dropWhile]
  · rw [trimL_eq]
    rcases h3 with h3 | h3
    · exact .inl h3
    · refine .inr ⟨?_, h3⟩
      rcases dropWhile_head (p := blkB) l with h | ⟨x, hx, hb⟩
      · rw [h] at h3; obtain ⟨y, hy, _⟩ := h3; simp [trimR] at hy
      · refine ⟨x, ?_, hb⟩
        have hne : trimR (l.dropWhile blkB) ≠ [] := by intro e0; obtain ⟨y, hy, _⟩ := h3; rw [e0] at hy; simp at hy
        rw [h1] at hx
        cases hz : trimR (l.dropWhile blkB) with
        | nil => exact absurd hz hne
        | cons z zs => rw [hz, List.cons_append, List.head?_cons] at hx; rw [List.head?_cons]; exact hx
theorem trimL_bare (l : List UInt8) : Bare (trimL l) := by obtain ⟨_, _, _, _, _, h⟩ := trimL_parts l; exact h
theorem trimL_trail {l e : List UInt8} (he : ∀ c ∈ e, blkB c = true) : trimL (l ++ e) = trimL l := by
  obtain ⟨b, f, h1, h2, h3, h4⟩ := trimL_parts l
  have : l ++ e = b ++ trimL l ++ (f ++ e) := by conv => lhs; rw [h1]
                                                 simp
  rw [this]
  exact trim_unique h2 (fun c hc => (List.mem_append.1 hc).elim (h3 c) (he c)) h4
/-- The library's Trim at the two blanks. -/
theorem trimS_eq (l : List UInt8) : Lib.trimS l [32, 9] = trimL l := by
  have hp : (fun c => ([32, 9] : List UInt8).contains c) = blkB := by
    funext c
    simp only [blkB, List.contains_cons, List.contains_nil, Bool.or_false]
  unfold Lib.trimS Lib.trimLeftS Lib.trimRightS
  rw [hp]
  show (trimR l).dropWhile blkB = trimL l
  obtain ⟨e, h1, h2, h3⟩ := trimR_parts l
  have hb : Bare ((trimR l).dropWhile blkB) := by
    rcases dropWhile_head (p := blkB) (trimR l) with h | h
    · exact .inl h
    · refine .inr ⟨h, ?_⟩
      obtain ⟨x, hx, _⟩ := h
      rcases h3 with h3 | ⟨y, hy, hyb⟩
      · rw [h3] at hx; simp at hx
      · refine ⟨y, ?_, hyb⟩
        have hne : (trimR l).dropWhile blkB ≠ [] := by intro e0; rw [e0] at hx; simp at hx
        have h5 := List.takeWhile_append_dropWhile (p := blkB) (l := trimR l)
        rw [← h5, List.getLast?_append] at hy
        cases hz : ((trimR l).dropWhile blkB).getLast? with
        | none => exact absurd (List.getLast?_eq_none_iff.1 hz) hne
        | some z => rw [hz] at hy; simpa using hy
  have h5 := List.takeWhile_append_dropWhile (p := blkB) (l := trimR l)
  have h6 : l = (trimR l).takeWhile blkB ++ (trimR l).dropWhile blkB ++ e := by rw [h5]; exact h1
  conv => rhs; rw [h6]
  exact (trim_unique (takeWhile_all _) h2 hb).symm

/- The document's scan of a line: where the remark begins, where the line is parted. -/
def cutGo : Nat → List UInt8 → Nat → Option Nat → Nat × Option Nat
  | 0, _, i, semi => (i, semi)
  | _ + 1, [], i, semi => (i, semi)
  | f + 1, x :: r, i, semi => match qtL (x :: r) with
    | some k => cutGo f ((x :: r).drop k) (i + k) semi
    | none => if x = 35 then (i, semi) else if x = 59 ∧ semi = none then cutGo f r (i + 1) (some i) else cutGo f r (i + 1) semi
/-- How much of a line stands ahead of its remark. -/
def hashP (l : List UInt8) : Nat := (findP 35 l).getD l.length
theorem cutGo_eq : ∀ (f : Nat) (l : List UInt8) (i : Nat) (semi : Option Nat), l.length ≤ f →
    cutGo f l i semi = (i + hashP l, match semi with | some k => some k | none => (findP 59 (l.take (hashP l))).map (· + i))
  | 0, l, i, semi, h => by
    have : l = [] := List.eq_nil_of_length_eq_zero (by omega)
    subst this
    cases semi <;> simp [cutGo, hashP, findP_nil]
  | f + 1, [], i, semi, _ => by cases semi <;> simp [cutGo, hashP, findP_nil]
  | f + 1, x :: r, i, semi, h => by
    simp only [List.length_cons] at h
    unfold cutGo
    cases hq : qtL (x :: r) with
    | some k =>
      have h1 := qtL_some hq
      simp only [List.length_cons] at h1
      have hh : hashP (x :: r) = k + hashP ((x :: r).drop k) := by
        unfold hashP
        rw [findP_qt hq]
        cases findP 35 ((x :: r).drop k) with
        | some j => simp; omega
        | none => simp; omega
      have ih := cutGo_eq f ((x :: r).drop k) (i + k) semi (by rw [List.length_drop, List.length_cons]; omega)
      simp only
      rw [ih, hh]
      refine Prod.ext (by simp only; omega) ?_
      cases semi with
      | some m => rfl
      | none =>
        simp only
        rw [findP_qt (qtL_take hq (Nat.le_add_right _ _)), List.drop_take, Nat.add_sub_cancel_left, Option.map_map]
        congr 1
        funext m; simp only [Function.comp]; omega
    | none =>
      simp only
      by_cases hx : x = 35
      · subst hx
        have hh : hashP (35 :: r) = 0 := by unfold hashP; rw [findP_cons hq, if_pos rfl]; rfl
        rw [if_pos rfl, hh]
        cases semi <;> simp [findP_nil]
      · have hh : hashP (x :: r) = hashP r + 1 := by
          unfold hashP
          rw [findP_cons hq, if_neg hx]
          cases findP 35 r with
          | some j => rfl
          | none => rfl
        have hq2 : qtL (x :: r.take (hashP r)) = none := by
          cases h2 : qtL (x :: r.take (hashP r)) with
          | none => rfl
          | some k =>
            have : qtL ((x :: r).take (hashP r + 1)) = some k := h2
            rw [qtL_of_take this] at hq; cases hq
        rw [if_neg hx, hh, List.take_succ_cons, findP_cons hq2]
        by_cases h59 : x = 59
        · subst h59
          cases semi with
          | some m =>
            rw [if_neg (by simp)]
            rw [cutGo_eq f r (i + 1) _ (by omega)]
            exact Prod.ext (by simp only; omega) rfl
          | none =>
            rw [if_pos ⟨rfl, rfl⟩, cutGo_eq f r (i + 1) _ (by omega), if_pos rfl]
            exact Prod.ext (by simp only; omega) (by simp)
        · rw [if_neg (fun h => h59 h.1), cutGo_eq f r (i + 1) _ (by omega), if_neg h59]
          refine Prod.ext (by simp only; omega) ?_
          cases semi with
          | some m => rfl
          | none =>
            simp only
            rw [Option.map_map]
            congr 1
            funext m; simp only [Function.comp]; omega

/- A spelling with blanks ahead. -/
def spcL (l : List UInt8) : List UInt8 := l.map fun c => if c = 9 then 32 else c
def parseE (l : List UInt8) : Except Int (List (Int × Int)) := match parseP (bytesOf l) with | .error x => .error x.1 | .ok l => .ok l
def shE {α : Type} : Except (Int × Nat) (α × Nat) → Except (Int × Nat) (α × Nat)
  | .error (e, p) => .error (e, p + 1)
  | .ok (x, q) => .ok (x, q + 1)
section
variable {l : List UInt8}
theorem rest_sh (c : UInt8) (a : Nat) : rest (bytesOf (c :: l)) (a + 1) = rest (bytesOf l) a := by unfold rest; rw [bytesOf_list, bytesOf_list]; rfl
theorem runeAt_sh (c : UInt8) (a : Nat) : runeAt (bytesOf (c :: l)) (a + 1) = runeAt (bytesOf l) a := by
  unfold runeAt
  have h1 : a + 1 < (bytesOf (c :: l)).size ↔ a < (bytesOf l).size := by rw [bytesOf_size, bytesOf_size, List.length_cons]; omega
  have hd : Utf8.decode (bytesOf (c :: l)) (a + 1) = Utf8.decode (bytesOf l) a := by
    rw [Lib.decode_at, Lib.decode_at]
    have hs : (bytesOf (c :: l)).size - (a + 1) = (bytesOf l).size - a := by rw [bytesOf_size, bytesOf_size, List.length_cons]; omega
    have hg : ∀ k, (bytesOf (c :: l)).get! (a + 1 + k) = (bytesOf l).get! (a + k) := fun k => by
      rw [bytesOf_get, bytesOf_get, show a + 1 + k = a + k + 1 by omega]; rfl
    have hg0 : (bytesOf (c :: l)).get! (a + 1) = (bytesOf l).get! a := hg 0
    rw [hs, hg0, hg 1, hg 2, hg 3]
  by_cases h : a < (bytesOf l).size
  · rw [if_pos h, if_pos (h1.2 h), hd]
  · rw [if_neg h, if_neg (fun k => h (h1.1 k))]
theorem hexRun_sh (c : UInt8) (a : Nat) : hexRun (bytesOf (c :: l)) (a + 1) = hexRun (bytesOf l) a := by unfold hexRun; rw [rest_sh]
theorem numP_sh (c : UInt8) (a : Nat) : numP (bytesOf (c :: l)) (a + 1) = shE (numP (bytesOf l) a) := by
  unfold numP
  rw [show a + 1 + 2 = (a + 2) + 1 by omega, hexRun_sh]
  split
  · rfl
  · split
    · rfl
    · simp only [shE]; congr 2; omega
theorem quoP_sh (c : UInt8) (a : Nat) : quoP (bytesOf (c :: l)) (a + 1) = shE (quoP (bytesOf l) a) := by
  unfold quoP
  rw [runeAt_sh c (a + 1), show a + 1 + 1 + (runeAt (bytesOf l) (a + 1)).2 = (a + 1 + (runeAt (bytesOf l) (a + 1)).2) + 1 by omega, rest_sh]
  split
  · rfl
  · split
    · rfl
    · split
      · rfl
      · simp only [shE]; congr 2; omega
theorem runeP_sh (c : UInt8) (a : Nat) : runeP (bytesOf (c :: l)) (a + 1) = shE (runeP (bytesOf l) a) := by
  unfold runeP
  rw [rest_sh, numP_sh, quoP_sh]
  split
  · rfl
  · split
    · rfl
    · rfl
theorem itemP_sh (c : UInt8) (a : Nat) : itemP (bytesOf (c :: l)) (a + 1) = shE (itemP (bytesOf l) a) := by
  unfold itemP
  rw [runeP_sh]
  cases h1 : runeP (bytesOf l) a with
  | error x => rfl
  | ok x =>
    obtain ⟨lo, p⟩ := x
    simp only [shE]
    rw [rest_sh, runeP_sh c (p + 1)]
    by_cases hd : (rest (bytesOf l) p).head? = some 45
    · rw [if_pos hd, if_pos hd]
      cases h2 : runeP (bytesOf l) (p + 1) with
      | error y => rfl
      | ok y =>
        obtain ⟨hi, q⟩ := y
        simp only [shE]
        rw [rest_sh]
        split
        · rfl
        · split
          · rfl
          · rfl
    · rw [if_neg hd, if_neg hd]
      simp only
      rw [rest_sh]
      split
      · rfl
      · split
        · rfl
        · rfl
theorem parseGo_sh (c : UInt8) : ∀ (f a : Nat) (acc : List (Int × Int)), (match parseGo (bytesOf (c :: l)) f (a + 1) acc with | .error x => .error x.1 | .ok l => .ok l : Except Int (List (Int × Int))) = match parseGo (bytesOf l) f a acc with | .error x => .error x.1 | .ok l => .ok l
  | 0, a, acc => rfl
  | f + 1, a, acc => by
    unfold parseGo
    rw [rest_sh]
    cases hh : (rest (bytesOf l) a).head? with
    | none => rfl
    | some d =>
      simp only
      by_cases h32 : d = 32
      · rw [if_pos h32, if_pos h32]; exact parseGo_sh c f (a + 1) acc
      · rw [if_neg h32, if_neg h32, itemP_sh]
        cases hi : itemP (bytesOf l) a with
        | error x => rfl
        | ok x => obtain ⟨x, q⟩ := x; exact parseGo_sh c f q (acc ++ [x])
end
theorem parseE_blank (l : List UInt8) : parseE (32 :: l) = parseE l := by
  unfold parseE parseP
  rw [bytesOf_size, bytesOf_size, List.length_cons]
  have h : parseGo (bytesOf (32 :: l)) (l.length + 1 + 1) 0 [] = parseGo (bytesOf (32 :: l)) (l.length + 1) (0 + 1) [] := by
    conv => lhs; unfold parseGo
    have : (rest (bytesOf (32 :: l)) 0).head? = some 32 := by unfold rest; rw [bytesOf_list]; rfl
    rw [this]; simp only [if_true]
  rw [h]
  exact parseGo_sh 32 _ 0 []
theorem parseE_blanks : ∀ (b l : List UInt8), (∀ c ∈ b, blkB c = true) → parseE (spcL (b ++ l)) = parseE (spcL l)
  | [], _, _ => rfl
  | x :: b, l, h => by
    have hx := h x (by simp)
    have : (if x = 9 then (32 : UInt8) else x) = 32 := by
      simp only [blkB, Bool.or_eq_true, beq_iff_eq] at hx
      rcases hx with rfl | rfl
      · rfl
      · rfl
    rw [List.cons_append]
    show parseE ((if x = 9 then 32 else x) :: spcL (b ++ l)) = _
    rw [this, parseE_blank, parseE_blanks b l (fun c hc => h c (by simp [hc]))]

/-- What a line says: nothing; or why it is none; or its name's text, and its set. -/
inductive Line where
  | none_ : Line
  | noLine : Line
  | says (name : List UInt8) (set : List UInt8) : Line
/-- As the program parts it. -/
def lineP (l : List UInt8) : Line :=
  let u := trimL (l.take (hashP l))
  if u = [] then .none_ else match findP 59 u with
  | none => .noLine
  | some j => .says (trimL (u.drop (j + 1))) (u.take j)
/-- As the document does. -/
def lineD (l : List UInt8) : Line :=
  let t := l.take (hashP l)
  if trimL t = [] then .none_ else match findP 59 t with
  | none => .noLine
  | some j => .says (trimL (t.drop (j + 1))) (t.take j)
/-- Do two lines say the same? Blanks ahead of a set do not count. -/
def Line.same : Line → Line → Prop
  | .none_, .none_ => True
  | .noLine, .noLine => True
  | .says n s, .says m t => n = m ∧ parseE (spcL s) = parseE (spcL t)
  | _, _ => False
theorem line_same (l : List UInt8) : Line.same (lineD l) (lineP l) := by
  unfold lineD lineP
  simp only
  generalize l.take (hashP l) = t
  obtain ⟨b, e, h1, h2, h3, h4⟩ := trimL_parts t
  by_cases h0 : trimL t = []
  · rw [if_pos h0, if_pos h0]; trivial
  · rw [if_neg h0, if_neg h0]
    have hf : findP 59 t = (findP 59 (trimL t)).map (· + b.length) := by
      conv => lhs; rw [h1]
      rw [List.append_assoc, findP_lead (by decide) _ _ h2, findP_trail (by decide) _ _ _ (Nat.le_refl _) h3]
    rw [hf]
    cases hj : findP 59 (trimL t) with
    | none => trivial
    | some j =>
      have hlt := (List.getElem?_eq_some_iff.1 (findP_lt (trimL t).length (trimL t) (Nat.le_refl _) j hj)).1
      simp only [Option.map_some, Line.same]
      constructor
      · conv => lhs; rw [h1]
        rw [List.append_assoc, show j + b.length + 1 = b.length + (j + 1) by omega, ← List.drop_drop, List.drop_left, List.drop_append_of_le_length (by omega), trimL_trail h3]
      · conv => lhs; rw [h1]
        rw [List.append_assoc, show j + b.length = b.length + j by omega, List.take_append, List.take_of_length_le (by omega), Nat.add_sub_cancel_left, List.take_append_of_le_length (by omega), parseE_blanks _ _ h2]
end Go.Proofs.YtejccafolfeabaaGreatDoor

/-
  PLAIN: a database: its lines, its classes, their sets; whether two sets meet. No walk.
-/
namespace Go.Proofs.YtejccafolfeabaaGreatDoor

def letB (c : UInt8) : Bool := decide (65 ≤ c.toNat ∧ c.toNat ≤ 90) || decide (97 ≤ c.toNat ∧ c.toNat ≤ 122)
def partB (c : UInt8) : Bool := letB c || decide (48 ≤ c.toNat ∧ c.toNat ≤ 57) || c == 95
/-- May a class be called so? -/
def nameL : List UInt8 → Bool
  | [] => false
  | c :: r => letB c && r.all partB && decide (r.length ≤ 31)
def otherL : List UInt8 := [79, 116, 104, 101, 114]
/-- Do two sets have a rune in common? -/
def meetB (a b : List (Int × Int)) : Bool := a.any fun x => b.any fun y => decide (x.1 ≤ y.2) && decide (y.1 ≤ x.2)
theorem meetB_nil_left (b : List (Int × Int)) : meetB [] b = false := rfl
theorem meetB_nil_right (a : List (Int × Int)) : meetB a [] = false := by simp [meetB]
theorem meetB_iff {a b : List (Int × Int)} (ha : Nf a) (hb : Nf b) : meetB a b = true ↔ ∃ r, memR a r ∧ memR b r := by
  simp only [meetB, List.any_eq_true, Bool.and_eq_true, decide_eq_true_eq, memR]
  constructor
  · rintro ⟨x, hx, y, hy, h1, h2⟩
    have := Nf_le ha x hx; have := Nf_le hb y hy
    rcases Int.le_total x.1 y.1 with h | h
    · exact ⟨y.1, ⟨x, hx, h, h2⟩, y, hy, by omega, by omega⟩
    · exact ⟨x.1, ⟨x, hx, by omega, by omega⟩, y, hy, h, h1⟩
  · rintro ⟨r, ⟨x, hx, h1, h2⟩, y, hy, h3, h4⟩
    exact ⟨x, hx, y, hy, by omega, by omega⟩
/-- The program's way: side by side. -/
theorem meetB_left {x : Int × Int} {a : List (Int × Int)} {y : Int × Int} {b : List (Int × Int)} (hb : Nf (y :: b)) (h : x.2 < y.1) : meetB (x :: a) (y :: b) = meetB a (y :: b) := by
  have e : ((y :: b).any fun z => decide (x.1 ≤ z.2) && decide (z.1 ≤ x.2)) = false := by
    rw [List.any_eq_false]
    intro z hz
    have : y.1 ≤ z.1 := by
      rcases List.mem_cons.1 hz with rfl | hz
      · omega
      · have := hb.2.1 z hz; have := hb.1; omega
    simp; omega
  unfold meetB
  rw [List.any_cons, e, Bool.false_or]
theorem meetB_right {x : Int × Int} {a : List (Int × Int)} {y : Int × Int} {b : List (Int × Int)} (ha : Nf (x :: a)) (h : y.2 < x.1) : meetB (x :: a) (y :: b) = meetB (x :: a) b := by
  have e : ∀ z ∈ x :: a, (decide (z.1 ≤ y.2) && decide (y.1 ≤ z.2)) = false := fun z hz => by
    have : x.1 ≤ z.1 := by
      rcases List.mem_cons.1 hz with rfl | hz
      · omega
      · have := ha.2.1 z hz; have := ha.1; omega
    simp; omega
  unfold meetB
  rw [Bool.eq_iff_iff, List.any_eq_true, List.any_eq_true]
  constructor
  · rintro ⟨z, hz, hq⟩
    rw [List.any_cons, e z hz, Bool.false_or] at hq
    exact ⟨z, hz, hq⟩
  · rintro ⟨z, hz, hq⟩
    exact ⟨z, hz, by rw [List.any_cons, hq, Bool.or_true]⟩
theorem meetB_here {x : Int × Int} {a : List (Int × Int)} {y : Int × Int} {b : List (Int × Int)} (h1 : ¬ x.2 < y.1) (h2 : ¬ y.2 < x.1) : meetB (x :: a) (y :: b) = true := by
  unfold meetB
  rw [List.any_cons, List.any_cons]
  have : (decide (x.1 ≤ y.2) && decide (y.1 ≤ x.2)) = true := by simp; omega
  rw [this]; simp

/-- A database: the names by numbers; of each its set (of number 0 nothing yet). -/
structure DbP where
  names : List (List UInt8)
  sets : List (List (Int × Int))
def DbP.first : DbP := ⟨[otherL], [[]]⟩
def DbP.num (d : DbP) (n : List UInt8) : Option Nat := d.names.idxOf? n
def DbP.clash (d : DbP) (c : Nat) (l : List (Int × Int)) : Bool := (List.range d.sets.length).any fun k => decide (k ≠ c) && meetB (d.sets.getD k []) l
/-- What a line adds. -/
def addL (d : DbP) (name set : List UInt8) : Except Int DbP :=
  if nameL name = false ∨ name = otherL then .error 40 else
  match parseE (spcL set) with
  | .error e => .error e
  | .ok l =>
    match d.num name with
    | some c => if d.clash c (normR l) then .error 41 else .ok ⟨d.names, d.sets.set c (orR (d.sets.getD c []) (normR l))⟩
    | none => if 64 ≤ d.names.length then .error 6 else if d.clash d.names.length (normR l) then .error 41 else .ok ⟨d.names ++ [name], d.sets ++ [orR [] (normR l)]⟩
def stepL (d : DbP) (l : List UInt8) : Except Int DbP :=
  match lineP l with
  | .none_ => .ok d
  | .noLine => .error 42
  | .says n s => addL d n s
/-- The lines of a text. -/
def splitL : List UInt8 → List (List UInt8)
  | [] => [[]]
  | c :: r => if c = 10 then [] :: splitL r else match splitL r with
    | [] => [[c]]
    | x :: t => (c :: x) :: t
def linesGo (d : DbP) : List (List UInt8) → Nat → Except (Int × Nat) DbP
  | [], _ => .ok d
  | l :: r, i => match stepL d l with
    | .error e => .error (e, i + 1)
    | .ok d' => linesGo d' r (i + 1)
/-- The classes of a text; number 0 has nothing yet. -/
def newP (t : List UInt8) : Except (Int × Nat) DbP := if 65536 < t.length then .error (1, 0) else linesGo DbP.first (splitL t) 0
/-- What number 0 has: what no other has. -/
def DbP.rest (d : DbP) : List (Int × Int) := notR (d.sets.tail.flatten)
/-- As the document's line says it: the same step. -/
theorem stepL_doc (d : DbP) (l : List UInt8) : stepL d l = match lineD l with
    | .none_ => .ok d
    | .noLine => .error 42
    | .says n s => addL d n s := by
  have h := line_same l
  unfold stepL
  cases h1 : lineD l with
  | none_ =>
    rw [h1] at h
    cases h2 : lineP l with
    | none_ => rfl
    | noLine => rw [h2] at h; exact h.elim
    | says n s => rw [h2] at h; exact h.elim
  | noLine =>
    rw [h1] at h
    cases h2 : lineP l with
    | none_ => rw [h2] at h; exact h.elim
    | noLine => rfl
    | says n s => rw [h2] at h; exact h.elim
  | says n s =>
    rw [h1] at h
    cases h2 : lineP l with
    | none_ => rw [h2] at h; exact h.elim
    | noLine => rw [h2] at h; exact h.elim
    | says m t =>
      rw [h2] at h
      obtain ⟨rfl, h3⟩ := h
      simp only [addL, h3]
/-- What a database keeps: as many sets as names; each set in normal form; no name twice; the first one is that of the others. -/
structure DbP.Ok (d : DbP) : Prop where
  len : d.sets.length = d.names.length
  nf : ∀ l ∈ d.sets, NF l
  nodup : d.names.Nodup
  head : d.names.head? = some otherL
  head' : d.sets.head? = some []
  few : d.names.length ≤ 64
theorem DbP.first_ok : DbP.first.Ok := ⟨rfl, fun l hl => by simp [DbP.first] at hl; subst hl; exact ⟨trivial, by simp⟩, by simp [DbP.first], rfl, rfl, by simp [DbP.first]⟩
theorem idxOf?_some {α : Type} [BEq α] [LawfulBEq α] {l : List α} {x : α} {i : Nat} (h : l.idxOf? x = some i) : l[i]? = some x := by
  rw [List.idxOf?, List.findIdx?_eq_some_iff_getElem] at h
  obtain ⟨hi, h1, _⟩ := h
  rw [List.getElem?_eq_getElem hi]
  simpa using h1
theorem idxOf?_none {α : Type} [BEq α] [LawfulBEq α] {l : List α} {x : α} (h : l.idxOf? x = none) : x ∉ l := by
  rw [List.idxOf?, List.findIdx?_eq_none_iff] at h
  intro hx
  have := h x hx
  simp at this
theorem addL_ok {d d' : DbP} {n s : List UInt8} (h : d.Ok) (ha : addL d n s = .ok d') : d'.Ok := by
  unfold addL at ha
  split at ha
  · cases ha
  · rename_i hn
    split at ha
    · cases ha
    · rename_i l _
      have hno : n ≠ otherL := fun e => hn (.inr e)
      split at ha
      · rename_i c hc
        split at ha
        · cases ha
        · injection ha with ha; subst ha
          have hci := idxOf?_some hc
          have hc0 : c ≠ 0 := by
            rintro rfl
            have := h.head
            rw [List.head?_eq_getElem?, hci] at this
            injection this with this; exact hno this
          refine ⟨by simp [h.len], fun q hq => ?_, h.nodup, h.head, ?_, h.few⟩
          · rcases List.mem_or_eq_of_mem_set hq with hq | rfl
            · exact h.nf q hq
            · exact orR_NF _ _
          · have := h.head'
            rw [List.head?_eq_getElem?] at this ⊢
            rw [List.getElem?_set_ne hc0]; exact this
      · rename_i hc
        split at ha
        · cases ha
        · rename_i h64
          split at ha
          · cases ha
          · injection ha with ha; subst ha
            have hne : d.sets ≠ [] := by intro e; have := h.head'; rw [e] at this; cases this
            have hne' : d.names ≠ [] := by intro e; have := h.head; rw [e] at this; cases this
            refine ⟨by simp [h.len], fun q hq => ?_, ?_, ?_, ?_, by simp only [List.length_append, List.length_singleton]; omega⟩
            · rcases List.mem_append.1 hq with hq | hq
              · exact h.nf q hq
              · simp at hq; subst hq; exact orR_NF _ _
            · rw [List.nodup_append]
              exact ⟨h.nodup, by simp, fun a ha b hb e => by simp at hb; subst hb; subst e; exact idxOf?_none hc ha⟩
            · cases hz : d.names with
              | nil => exact absurd hz hne'
              | cons z zs => have := h.head; rw [hz] at this; simpa using this
            · cases hz : d.sets with
              | nil => exact absurd hz hne
              | cons z zs => have := h.head'; rw [hz] at this; simpa using this
theorem stepL_ok {d d' : DbP} {l : List UInt8} (h : d.Ok) (hs : stepL d l = .ok d') : d'.Ok := by
  unfold stepL at hs
  split at hs
  · injection hs with hs; subst hs; exact h
  · cases hs
  · exact addL_ok h hs
theorem linesGo_ok : ∀ {L : List (List UInt8)} {d d' : DbP} {i : Nat}, d.Ok → linesGo d L i = .ok d' → d'.Ok
  | [], d, d', i, h, hs => by injection hs with hs; subst hs; exact h
  | l :: r, d, d', i, h, hs => by
    unfold linesGo at hs
    split at hs
    · cases hs
    · rename_i d2 h2
      exact linesGo_ok (stepL_ok h h2) hs
end Go.Proofs.YtejccafolfeabaaGreatDoor

/-
  PLAIN: the classes of a database are apart; which class a rune has; all ranges in order. No walk.
-/
namespace Go.Proofs.YtejccafolfeabaaGreatDoor

/-- No rune is in two of the sets. -/
def Apart (S : List (List (Int × Int))) : Prop := ∀ (i j : Nat) (a b : List (Int × Int)), S[i]? = some a → S[j]? = some b → i ≠ j → ∀ r, memR a r → memR b r → False
theorem apart_first : Apart DbP.first.sets := fun i j a b hi hj hij r ha _ => by
  have : i = 0 := by have := (List.getElem?_eq_some_iff.1 hi).1; simp [DbP.first] at this; exact this
  have : j = 0 := by have := (List.getElem?_eq_some_iff.1 hj).1; simp [DbP.first] at this; exact this
  omega
theorem clash_false {d : DbP} {c : Nat} {l : List (Int × Int)} (h : d.clash c l = false) (hd : ∀ s ∈ d.sets, NF s) (hl : Nf l) : ∀ (k : Nat) (s : List (Int × Int)), d.sets[k]? = some s → k ≠ c → ∀ r, memR s r → memR l r → False := by
  intro k s hk hkc r h1 h2
  unfold DbP.clash at h
  rw [List.any_eq_false] at h
  have hlt := (List.getElem?_eq_some_iff.1 hk).1
  have h3 := h k (List.mem_range.2 hlt)
  rw [List.getD_eq_getElem?_getD, hk, Option.getD_some] at h3
  have : meetB s l = true := (meetB_iff (hd s (List.mem_of_getElem? hk)).1 hl).2 ⟨r, h1, h2⟩
  rw [this] at h3
  simp [hkc] at h3
theorem memR_orR {a b : List (Int × Int)} (ha : NF a) (hb : NF b) (r : Int) : memR (orR a b) r ↔ memR a r ∨ memR b r := by
  rw [← NF_mem (orR_NF a b), hasP_orR, NF_mem ha, NF_mem hb]
theorem apart_set {S : List (List (Int × Int))} {c : Nat} {s l : List (Int × Int)} (h : Apart S) (hc : S[c]? = some s) (hs : NF s) (hl : NF l) (hcl : ∀ (k : Nat) (q : List (Int × Int)), S[k]? = some q → k ≠ c → ∀ r, memR q r → memR l r → False) : Apart (S.set c (orR s l)) := by
  intro i j a b hi hj hij r ha hb
  by_cases h1 : i = c
  · subst h1
    have hlt := (List.getElem?_eq_some_iff.1 hc).1
    rw [List.getElem?_set_self hlt] at hi
    rw [List.getElem?_set_ne (by omega)] at hj
    injection hi with hi; subst hi
    rcases (memR_orR hs hl r).1 ha with ha | ha
    · exact h i j s b hc hj hij r ha hb
    · exact hcl j b hj (by omega) r hb ha
  · rw [List.getElem?_set_ne (by omega)] at hi
    by_cases h2 : j = c
    · subst h2
      have hlt := (List.getElem?_eq_some_iff.1 hc).1
      rw [List.getElem?_set_self hlt] at hj
      injection hj with hj; subst hj
      rcases (memR_orR hs hl r).1 hb with hb | hb
      · exact h i j a s hi hc hij r ha hb
      · exact hcl i a hi (by omega) r ha hb
    · rw [List.getElem?_set_ne (by omega)] at hj
      exact h i j a b hi hj hij r ha hb
theorem memR_or_nil {l : List (Int × Int)} (hl : NF l) (r : Int) : memR (orR [] l) r ↔ memR l r := by
  rw [memR_orR (show NF [] from ⟨trivial, by simp⟩) hl]; simp [memR_nil]
theorem apart_snoc {S : List (List (Int × Int))} {l : List (Int × Int)} (h : Apart S) (hl : NF l) (hcl : ∀ (k : Nat) (q : List (Int × Int)), S[k]? = some q → ∀ r, memR q r → memR l r → False) : Apart (S ++ [orR [] l]) := by
  intro i j a b hi hj hij r ha hb
  have hlen := (List.getElem?_eq_some_iff.1 hi).1
  have hlen2 := (List.getElem?_eq_some_iff.1 hj).1
  simp only [List.length_append, List.length_singleton] at hlen hlen2
  by_cases h1 : i < S.length
  · rw [List.getElem?_append_left h1] at hi
    by_cases h2 : j < S.length
    · rw [List.getElem?_append_left h2] at hj
      exact h i j a b hi hj hij r ha hb
    · rw [List.getElem?_append_right (by omega), show j - S.length = 0 by omega] at hj
      simp at hj; subst hj
      exact hcl i a hi r ha ((memR_or_nil hl r).1 hb)
  · rw [List.getElem?_append_right (by omega), show i - S.length = 0 by omega] at hi
    simp at hi; subst hi
    rw [List.getElem?_append_left (by omega)] at hj
    exact hcl j b hj r hb ((memR_or_nil hl r).1 ha)
theorem addL_apart {d d' : DbP} {n s : List UInt8} (h : d.Ok) (ha : Apart d.sets) (hs : addL d n s = .ok d') : Apart d'.sets := by
  unfold addL at hs
  split at hs
  · cases hs
  · split at hs
    · cases hs
    · rename_i l _
      split at hs
      · rename_i c hc
        split at hs
        · cases hs
        · rename_i hcl
          injection hs with hs; subst hs
          have hlt : c < d.sets.length := by rw [h.len]; exact (List.getElem?_eq_some_iff.1 (idxOf?_some hc)).1
          have hsc : d.sets[c]? = some (d.sets.getD c []) := by rw [List.getD_eq_getElem?_getD, List.getElem?_eq_getElem hlt]; rfl
          exact apart_set ha hsc (h.nf _ (List.mem_of_getElem? hsc)) (normR_NF l) (clash_false (by simpa using hcl) h.nf (normR_nf l))
      · split at hs
        · cases hs
        · split at hs
          · cases hs
          · rename_i hcl
            injection hs with hs; subst hs
            refine apart_snoc ha (normR_NF l) fun k q hk r h1 h2 => ?_
            exact clash_false (by simpa using hcl) h.nf (normR_nf l) k q hk (by have := (List.getElem?_eq_some_iff.1 hk).1; rw [h.len] at this; omega) r h1 h2
theorem linesGo_apart : ∀ {L : List (List UInt8)} {d d' : DbP} {i : Nat}, d.Ok → Apart d.sets → linesGo d L i = .ok d' → Apart d'.sets
  | [], d, d', i, _, ha, hs => by injection hs with hs; subst hs; exact ha
  | l :: r, d, d', i, h, ha, hs => by
    unfold linesGo at hs
    split at hs
    · cases hs
    · rename_i d2 h2
      refine linesGo_apart (stepL_ok h h2) ?_ hs
      unfold stepL at h2
      split at h2
      · injection h2 with h2; subst h2; exact ha
      · cases h2
      · exact addL_apart h ha h2
theorem newP_ok {t : List UInt8} {d : DbP} (h : newP t = .ok d) : d.Ok ∧ Apart d.sets := by
  unfold newP at h
  split at h
  · cases h
  · exact ⟨linesGo_ok DbP.first_ok h, linesGo_apart DbP.first_ok apart_first h⟩

/-- The rune that is asked for. -/
def askR (r : Int) : Int := if r < 0 ∨ 1114111 < r then 65533 else r
/-- The class of a rune, among the sets from a number on. -/
def getGo (r : Int) : Nat → List (List (Int × Int)) → Nat
  | _, [] => 0
  | i, s :: t => if hasB s r then i else getGo r (i + 1) t
def DbP.get (d : DbP) (r : Int) : Nat := getGo (askR r) 1 d.sets.tail
theorem getGo_spec {r : Int} : ∀ {S : List (List (Int × Int))} {i : Nat}, 1 ≤ i → (getGo r i S = 0 ∧ ∀ s ∈ S, hasB s r = false) ∨ ∃ k s, S[k]? = some s ∧ hasB s r = true ∧ getGo r i S = i + k
  | [], i, _ => .inl ⟨rfl, by simp⟩
  | s :: t, i, hi => by
    unfold getGo
    cases hb : hasB s r with
    | true => exact .inr ⟨0, s, rfl, hb, by simp⟩
    | false =>
      simp only [Bool.false_eq_true, if_false]
      rcases getGo_spec (r := r) (S := t) (i := i + 1) (by omega) with ⟨h1, h2⟩ | ⟨k, q, h1, h2, h3⟩
      · exact .inl ⟨h1, fun z hz => (List.mem_cons.1 hz).elim (fun e => by rw [e]; exact hb) (h2 z)⟩
      · exact .inr ⟨k + 1, q, by simpa using h1, h2, by omega⟩
end Go.Proofs.YtejccafolfeabaaGreatDoor

/-
  PLAIN: all ranges of a database in their order; the class of a rune found in them. No walk.
-/
namespace Go.Proofs.YtejccafolfeabaaGreatDoor

/-- The ranges of all sets, each with its class, from a number on. -/
def entG : Nat → List (List (Int × Int)) → List (Int × Int × Nat)
  | _, [] => []
  | c, s :: t => s.map (fun x => (x.1, x.2, c)) ++ entG (c + 1) t
def DbP.ents (d : DbP) : List (Int × Int × Nat) := entG 1 d.sets.tail
def RiseC (l : List (Int × Int × Nat)) : Prop := l.Pairwise fun a b => a.1 ≤ b.1
/-- All ranges in order. -/
def DbP.rng (d : DbP) : List (Int × Int × Nat) := d.ents.mergeSort fun a b => decide (a.1 ≤ b.1)
theorem rng_rise (d : DbP) : RiseC d.rng := by
  have := List.pairwise_mergeSort (le := fun a b : Int × Int × Nat => decide (a.1 ≤ b.1)) (by simp; intros; omega) (by simp; intros; omega) d.ents
  exact this.imp (by simp)
theorem rng_perm (d : DbP) : d.rng.Perm d.ents := List.mergeSort_perm _ _
theorem entG_append : ∀ (S T : List (List (Int × Int))) (c : Nat), entG c (S ++ T) = entG c S ++ entG (c + S.length) T
  | [], T, c => by simp [entG]
  | s :: S, T, c => by
    rw [List.cons_append]
    show _ ++ entG (c + 1) (S ++ T) = (_ ++ entG (c + 1) S) ++ _
    rw [entG_append S T (c + 1), List.length_cons, List.append_assoc, show c + 1 + S.length = c + (S.length + 1) by omega]
theorem mem_entG : ∀ {S : List (List (Int × Int))} {c : Nat} {x : Int × Int × Nat}, x ∈ entG c S ↔ ∃ k s, S[k]? = some s ∧ (x.1, x.2.1) ∈ s ∧ x.2.2 = c + k
  | [], c, x => by simp [entG]
  | s :: S, c, x => by
    unfold entG
    rw [List.mem_append, mem_entG (S := S)]
    constructor
    · rintro (h | ⟨k, q, h1, h2, h3⟩)
      · obtain ⟨y, hy, rfl⟩ := List.mem_map.1 h
        exact ⟨0, s, rfl, hy, rfl⟩
      · exact ⟨k + 1, q, by simpa using h1, h2, by omega⟩
    · rintro ⟨k, q, h1, h2, h3⟩
      cases k with
      | zero =>
        simp at h1; subst h1
        exact .inl (List.mem_map.2 ⟨_, h2, by obtain ⟨a, b, e⟩ := x; simp at h3 ⊢; exact h3.symm⟩)
      | succ k => exact .inr ⟨k, q, by simpa using h1, h2, by omega⟩
/-- Two ranges with no rune in common. -/
def Off (x y : Int × Int × Nat) : Prop := x.2.1 < y.1 ∨ y.2.1 < x.1
theorem Nf_pair : ∀ {l : List (Int × Int)}, Nf l → l.Pairwise fun a b => a.2 < b.1
  | [], _ => .nil
  | x :: r, h => .cons (fun y hy => by have := h.2.1 y hy; omega) (Nf_pair h.2.2)
theorem apart_tail {s : List (Int × Int)} {S : List (List (Int × Int))} (h : Apart (s :: S)) : Apart S := fun i j a b hi hj hij => h (i + 1) (j + 1) a b (by simpa using hi) (by simpa using hj) (by omega)
theorem entG_off : ∀ {S : List (List (Int × Int))} {c : Nat}, Apart S → (∀ s ∈ S, Nf s) → (entG c S).Pairwise Off
  | [], _, _, _ => .nil
  | s :: S, c, ha, hn => by
    unfold entG
    rw [List.pairwise_append]
    refine ⟨?_, entG_off (apart_tail ha) (fun q hq => hn q (by simp [hq])), fun x hx y hy => ?_⟩
    · rw [List.pairwise_map]
      exact (Nf_pair (hn s (by simp))).imp (fun h => .inl h)
    · obtain ⟨z, hz, rfl⟩ := List.mem_map.1 hx
      obtain ⟨k, q, h1, h2, _⟩ := mem_entG.1 hy
      have hq : Nf q := hn q (by simp [List.mem_of_getElem? h1])
      have l1 := Nf_le (hn s (by simp)) z hz
      have l2 := Nf_le hq _ h2
      simp only at l2
      show z.2 < y.1 ∨ y.2.1 < z.1
      rcases Int.lt_or_le z.2 y.1 with h | h
      · exact .inl h
      · rcases Int.lt_or_le y.2.1 z.1 with h' | h'
        · exact .inr h'
        · exfalso
          have := ha 0 (k + 1) s q rfl (by simpa using h1) (by omega)
          rcases Int.le_total z.1 y.1 with h3 | h3
          · exact this y.1 ⟨z, hz, h3, h⟩ ⟨_, h2, Int.le_refl _, l2⟩
          · exact this z.1 ⟨z, hz, Int.le_refl _, l1⟩ ⟨_, h2, h3, h'⟩
theorem DbP.tail_apart {d : DbP} (h : Apart d.sets) : Apart d.sets.tail := by
  cases hs : d.sets with
  | nil => intro i j a b hi; simp at hi
  | cons s S => rw [hs] at h; exact apart_tail h
theorem DbP.Ok.tailNF {d : DbP} (h : d.Ok) : ∀ s ∈ d.sets.tail, NF s := fun s hs => h.nf s (List.mem_of_mem_tail hs)
theorem ents_off {d : DbP} (h : d.Ok) (ha : Apart d.sets) : d.ents.Pairwise Off := entG_off (DbP.tail_apart ha) fun s hs => (h.tailNF s hs).1
theorem ents_bd {d : DbP} (h : d.Ok) : ∀ x ∈ d.ents, 0 ≤ x.1 ∧ x.1 ≤ x.2.1 ∧ x.2.1 ≤ 1114111 ∧ 1 ≤ x.2.2 ∧ x.2.2 < d.sets.length := fun x hx => by
  obtain ⟨k, s, h1, h2, h3⟩ := mem_entG.1 hx
  have hs := h.tailNF s (List.mem_of_getElem? h1)
  have := hs.2 _ h2; have := Nf_le hs.1 _ h2
  have hk := (List.getElem?_eq_some_iff.1 h1).1
  rw [List.length_tail] at hk
  simp only at *
  omega
theorem off_symm {x y : Int × Int × Nat} (h : Off x y) : Off y x := h.symm
/-- A rising list of just these is the one. -/
theorem rng_unique {d : DbP} (h : d.Ok) (ha : Apart d.sets) {l : List (Int × Int × Nat)} (hp : l.Perm d.ents) (hr : RiseC l) : l = d.rng := by
  refine List.Perm.eq_of_pairwise (le := fun a b : Int × Int × Nat => a.1 ≤ b.1) (fun a b hal hbl h1 h2 => ?_) hr (rng_rise d) (hp.trans (rng_perm d).symm)
  have ha' := hp.mem_iff.1 hal
  have hb' := (rng_perm d).mem_iff.1 hbl
  have ba := ents_bd h a ha'; have bb := ents_bd h b hb'
  obtain ⟨i, hi, rfl⟩ := List.getElem_of_mem ha'
  obtain ⟨j, hj, rfl⟩ := List.getElem_of_mem hb'
  have hP := List.pairwise_iff_getElem.1 (ents_off h ha)
  rcases Nat.lt_trichotomy i j with hij | hij | hij
  · have := hP i j hi hj hij
    unfold Off at this; omega
  · subst hij; rfl
  · have := hP j i hj hi hij
    unfold Off at this; omega
theorem rng_bd {d : DbP} (h : d.Ok) : ∀ x ∈ d.rng, 0 ≤ x.1 ∧ x.1 ≤ x.2.1 ∧ x.2.1 ≤ 1114111 ∧ 1 ≤ x.2.2 ∧ x.2.2 < d.sets.length := fun x hx => ents_bd h x ((rng_perm d).mem_iff.1 hx)
/-- In order, each range ends ahead of the next. -/
theorem rng_next {d : DbP} (h : d.Ok) (ha : Apart d.sets) : d.rng.Pairwise fun a b => a.2.1 < b.1 := by
  have h1 : d.rng.Pairwise Off := (List.Perm.pairwise_iff off_symm (rng_perm d)).2 (ents_off h ha)
  have h2 := (rng_rise d).and h1
  exact h2.imp_of_mem fun {a b} hA hB hab => by
    have := rng_bd h a hA; have := rng_bd h b hB
    obtain ⟨h3, h4⟩ := hab
    unfold Off at h4; omega

/-- How many end ahead of a rune. -/
def endB (r : Int) (x : Int × Int × Nat) : Bool := decide (x.2.1 < r)
def findC (l : List (Int × Int × Nat)) (r : Int) : Nat :=
  match l[l.countP (endB r)]? with
  | some x => if x.1 ≤ r then x.2.2 else 0
  | none => 0
theorem findC_hit {r : Int} {x : Int × Int × Nat} : ∀ {l : List (Int × Int × Nat)}, (l.Pairwise fun a b => a.2.1 < b.1) → (∀ y ∈ l, y.1 ≤ y.2.1) → x ∈ l → x.1 ≤ r → r ≤ x.2.1 → l[l.countP (endB r)]? = some x
  | [], _, _, hx, _, _ => by simp at hx
  | a :: l, hp, hl, hx, h1, h2 => by
    rw [List.pairwise_cons] at hp
    rcases List.mem_cons.1 hx with rfl | hx
    · have : (x :: l).countP (endB r) = 0 := by
        rw [List.countP_eq_zero]
        intro y hy
        rcases List.mem_cons.1 hy with rfl | hy
        · simp [endB]; omega
        · have := hp.1 y hy; have := hl y (by simp [hy]); simp [endB]; omega
      rw [this]; rfl
    · have hax := hp.1 x hx
      rw [List.countP_cons_of_pos (by simp [endB]; omega), List.getElem?_cons_succ]
      exact findC_hit hp.2 (fun y hy => hl y (by simp [hy])) hx h1 h2
theorem findC_at {r : Int} {x : Int × Int × Nat} : ∀ {l : List (Int × Int × Nat)}, (l.Pairwise fun a b => a.2.1 < b.1) → (∀ y ∈ l, y.1 ≤ y.2.1) → l[l.countP (endB r)]? = some x → r ≤ x.2.1
  | [], _, _, hx => by simp at hx
  | a :: l, hp, hl, hx => by
    rw [List.pairwise_cons] at hp
    by_cases h : a.2.1 < r
    · rw [List.countP_cons_of_pos (by simp [endB]; omega), List.getElem?_cons_succ] at hx
      exact findC_at hp.2 (fun y hy => hl y (by simp [hy])) hx
    · have : (a :: l).countP (endB r) = 0 := by
        rw [List.countP_eq_zero]
        intro y hy
        rcases List.mem_cons.1 hy with rfl | hy
        · simp [endB]; omega
        · have := hp.1 y hy; have := hl y (by simp [hy]); simp [endB]; omega
      rw [this] at hx
      simp at hx; subst hx; omega
theorem askR_bd (r : Int) : 0 ≤ askR r ∧ askR r ≤ 1114111 := by unfold askR; split <;> omega
theorem hasB_NF {s : List (Int × Int)} (h : NF s) (r : Int) : hasB s r = true ↔ ∃ x ∈ s, x.1 ≤ r ∧ r ≤ x.2 := by rw [hasB_iff, NF_mem h]; rfl
/-- The class found among the ranges in order is the class of the rune. -/
theorem find_get {d : DbP} (h : d.Ok) (ha : Apart d.sets) (r : Int) : findC d.rng (askR r) = d.get r := by
  have hn := rng_next h ha
  have hle : ∀ y ∈ d.rng, y.1 ≤ y.2.1 := fun y hy => (rng_bd h y hy).2.1
  unfold DbP.get
  rcases getGo_spec (r := askR r) (S := d.sets.tail) (i := 1) (by omega) with ⟨h1, h2⟩ | ⟨k, s, h1, h2, h3⟩
  · rw [h1]
    unfold findC
    cases hx : d.rng[d.rng.countP (endB (askR r))]? with
    | none => rfl
    | some x =>
      have hr := findC_at hn hle hx
      simp only
      split
      · rename_i hlo
        exfalso
        obtain ⟨k, s, h3, h4, _⟩ := mem_entG.1 ((rng_perm d).mem_iff.1 (List.mem_of_getElem? hx))
        have hs := h.tailNF s (List.mem_of_getElem? h3)
        have := h2 s (List.mem_of_getElem? h3)
        rw [(hasB_NF hs _).2 ⟨_, h4, hlo, hr⟩] at this; cases this
      · rfl
  · rw [h3]
    have hs := h.tailNF s (List.mem_of_getElem? h1)
    obtain ⟨y, hy, hy1, hy2⟩ := (hasB_NF hs _).1 h2
    have hm : (y.1, y.2, 1 + k) ∈ d.rng := (rng_perm d).mem_iff.2 (mem_entG.2 ⟨k, s, h1, hy, rfl⟩)
    unfold findC
    rw [findC_hit hn hle hm hy1 hy2]
    simp only [hy1, if_true]
/-- What the search leaves: its place. -/
theorem count_place {r : Int} {l : List (Int × Int × Nat)} {i : Nat} (hi : i ≤ l.length) (h1 : ∀ t x, t < i → l[t]? = some x → x.2.1 < r) (h2 : ∀ t x, i ≤ t → l[t]? = some x → ¬ x.2.1 < r) : l.countP (endB r) = i := by
  have e : l = l.take i ++ l.drop i := (List.take_append_drop i l).symm
  rw [e, List.countP_append]
  have a1 : (l.take i).countP (endB r) = i := by
    rw [List.countP_eq_length.2, List.length_take, Nat.min_eq_left hi]
    intro x hx
    obtain ⟨t, ht, rfl⟩ := List.getElem_of_mem hx
    rw [List.length_take] at ht
    have := h1 t _ (by omega) (List.getElem?_eq_getElem (by omega))
    rw [List.getElem_take]; simpa [endB] using this
  have a2 : (l.drop i).countP (endB r) = 0 := by
    rw [List.countP_eq_zero]
    intro x hx
    obtain ⟨t, ht, rfl⟩ := List.getElem_of_mem hx
    rw [List.length_drop] at ht
    have := h2 (i + t) _ (by omega) (List.getElem?_eq_getElem (by omega))
    rw [List.getElem_drop]; simpa [endB] using this
  rw [a1, a2]; rfl

/-- A list in order into which one more is put, behind all that begin no later. -/
theorem rise_put {l : List (Int × Int × Nat)} {x : Int × Int × Nat} {k : Nat} (h : RiseC l) (h1 : ∀ y, k ≠ 0 → l[k - 1]? = some y → y.1 ≤ x.1) (h2 : ∀ y ∈ l.drop k, x.1 < y.1) (hk : k ≤ l.length) : RiseC (l.take k ++ x :: l.drop k) := by
  unfold RiseC
  have hs : (l.take k ++ l.drop k).Pairwise fun a b => a.1 ≤ b.1 := by rw [List.take_append_drop]; exact h
  rw [List.pairwise_append] at hs ⊢
  refine ⟨hs.1, .cons (fun y hy => by have := h2 y hy; omega) hs.2.1, fun a haa b hb => ?_⟩
  rcases List.mem_cons.1 hb with rfl | hb
  · obtain ⟨t, ht, rfl⟩ := List.getElem_of_mem haa
    rw [List.length_take] at ht
    rw [List.getElem_take]
    have hk0 : k ≠ 0 := by omega
    have hl := h1 _ hk0 (List.getElem?_eq_getElem (by omega))
    have := List.pairwise_iff_getElem.1 h
    rcases Nat.lt_or_ge t (k - 1) with hlt | hge
    · have := this t (k - 1) (by omega) (by omega) hlt; omega
    · obtain rfl : t = k - 1 := by omega
      exact hl
  · exact hs.2.2 a haa b hb
theorem perm_put {l : List (Int × Int × Nat)} {x : Int × Int × Nat} {k : Nat} : (l.take k ++ x :: l.drop k).Perm (l ++ [x]) := by
  have h1 : (l.take k ++ x :: l.drop k).Perm (x :: (l.take k ++ l.drop k)) := List.perm_middle
  rw [List.take_append_drop] at h1
  exact h1.trans (List.perm_append_comm (l₁ := [x]) (l₂ := l))
end Go.Proofs.YtejccafolfeabaaGreatDoor

/-
  PLAIN: the spelling of a set; read again it is the set. No walk.
-/
namespace Go.Proofs.YtejccafolfeabaaGreatDoor

def hexD (d : Nat) : UInt8 := if d < 10 then UInt8.ofNat (48 + d) else UInt8.ofNat (55 + d)
/-- The last k hexadecimal digits of a number. -/
def hexW : Nat → Nat → List UInt8
  | 0, _ => []
  | k + 1, n => hexW k (n / 16) ++ [hexD (n % 16)]
def hexK (n : Nat) : Nat := if n < 65536 then 4 else if n < 1048576 then 5 else 6
def hexS (n : Nat) : List UInt8 := hexW (hexK n) n
theorem hexW_len : ∀ (k n : Nat), (hexW k n).length = k
  | 0, _ => rfl
  | k + 1, n => by rw [hexW, List.length_append, hexW_len k]; rfl
theorem hexK_bd (n : Nat) : 4 ≤ hexK n ∧ hexK n ≤ 6 := by unfold hexK; split <;> (try split) <;> omega
theorem hexS_len (n : Nat) : (hexS n).length = hexK n := hexW_len _ _
theorem hexD_nat {d : Nat} (h : d < 16) : ((hexD d).toNat : Int) = if d < 10 then 48 + (d : Int) else 55 + (d : Int) := by
  unfold hexD
  split
  · rw [UInt8.toNat_ofNat']; omega
  · rw [UInt8.toNat_ofNat']; omega
theorem hexD_hex {d : Nat} (h : d < 16) : isHexN ((hexD d).toNat : Int) = true := by
  rw [hexD_nat h]; refine (isHexN_t ?_).symm; split <;> omega
theorem hexD_dig {d : Nat} (h : d < 16) : hexDig ((hexD d).toNat : Int) = d := by
  rw [hexD_nat h]; unfold hexDig; split <;> (rename_i h1; split <;> omega)
theorem hexW_all : ∀ (k n : Nat), allHex (hexW k n)
  | 0, _ => fun c h => by simp [hexW] at h
  | k + 1, n => fun c h => by
    rw [hexW] at h
    rcases List.mem_append.1 h with h | h
    · exact hexW_all k _ c h
    · simp at h; subst h; exact hexD_hex (Nat.mod_lt _ (by decide))
theorem hexW_val : ∀ (k n : Nat), n < 16 ^ k → hexVal (hexW k n) = n
  | 0, n, h => by simp [hexW, hexVal]; omega
  | k + 1, n, h => by
    rw [hexW, hexVal_snoc, hexW_val k (n / 16) (by rw [Nat.pow_succ] at h; omega), hexD_dig (Nat.mod_lt _ (by decide))]
    omega
theorem hexS_val {n : Nat} (h : n ≤ 1114111) : hexVal (hexS n) = n := by
  refine hexW_val _ _ ?_
  unfold hexK
  split
  · simpa using ‹_›
  · split
    · simpa using ‹_›
    · show n < 16777216; omega
theorem hexS_bytes (n : Nat) : ∀ c ∈ hexS n, c ≠ 32 ∧ c ≠ 45 := fun c hc => by
  have := of_decide_eq_true (show isHexN (c.toNat : Int) = true from hexW_all _ _ c hc)
  constructor <;> (rintro rfl; simp at this)

/-- A rune's spelling; a range's; a set's. -/
def spellP (r : Int) : List UInt8 := [85, 43] ++ hexS r.toNat
def itemT (x : Int × Int) : List UInt8 := spellP x.1 ++ (if x.2 = x.1 then [] else 45 :: spellP x.2)
def printL : List (Int × Int) → List UInt8
  | [] => []
  | [x] => itemT x
  | x :: y :: r => itemT x ++ 32 :: printL (y :: r)
def printP (l : List (Int × Int)) : List UInt8 := printL (normR l)
theorem spellP_len (r : Int) : (spellP r).length ≤ 8 := by unfold spellP; rw [List.length_append, hexS_len]; have := hexK_bd r.toNat; simp; omega
theorem itemT_len (x : Int × Int) : (itemT x).length ≤ 17 := by
  unfold itemT; rw [List.length_append]
  have := spellP_len x.1; have := spellP_len x.2
  split
  · simp; omega
  · simp; omega
theorem printL_len : ∀ (l : List (Int × Int)), (printL l).length ≤ 18 * l.length
  | [] => by simp [printL]
  | [x] => by have := itemT_len x; simp [printL]; omega
  | x :: y :: r => by
    have h1 := itemT_len x; have h2 := printL_len (y :: r)
    rw [printL, List.length_append, List.length_cons]
    simp only [List.length_cons] at h2 ⊢; omega
/-- Behind what stands ahead. -/
theorem printL_snoc : ∀ (l : List (Int × Int)) (x : Int × Int), printL (l ++ [x]) = printL l ++ (if l = [] then [] else [32]) ++ itemT x
  | [], x => by simp [printL]
  | [y], x => by simp [printL]
  | y :: z :: r, x => by
    have ih := printL_snoc (z :: r) x
    simp only [List.cons_append, printL] at ih ⊢
    rw [ih]; simp

/- Read again. -/
theorem hexRun_of {s : ByteArray} {a : Nat} {d r : List UInt8} (h : rest s a = d ++ r) (hd : allHex d) (hr : ∀ c, r.head? = some c → isHexN (c.toNat : Int) = false) : hexRun s a = d := by
  unfold hexRun; rw [h]
  clear h
  induction d with
  | nil =>
    rw [List.nil_append]
    cases r with
    | nil => rfl
    | cons c r => rw [List.takeWhile_cons, if_neg (by rw [hr c rfl]; decide)]
  | cons c d ih =>
    rw [List.cons_append, List.takeWhile_cons, if_pos (hd c (by simp)), ih (fun e he => hd e (by simp [he]))]
theorem rest_add {s : ByteArray} {a : Nat} {d r : List UInt8} (h : rest s a = d ++ r) : rest s (a + d.length) = r := by
  unfold rest at h ⊢
  rw [← List.drop_drop, h, List.drop_left]
theorem runeP_spell {s : ByteArray} {a : Nat} {x : Int} {r : List UInt8} (h : rest s a = spellP x ++ r) (hx : 0 ≤ x ∧ x ≤ 1114111) (hr : ∀ c, r.head? = some c → isHexN (c.toNat : Int) = false) :
    runeP s a = .ok (x, a + (spellP x).length) := by
  have h2 : rest s (a + 2) = hexS x.toNat ++ r := by
    have := rest_add (d := [85, 43]) (r := hexS x.toNat ++ r) (by rw [h, spellP, List.append_assoc])
    exact this
  have hh := hexRun_of h2 (hexW_all _ _) hr
  have hl := hexS_len x.toNat
  have hk := hexK_bd x.toNat
  have hv := hexS_val (n := x.toNat) (by omega)
  unfold runeP
  rw [if_pos (by rw [h]; simp [spellP]), numP, hh, if_neg (by omega), if_neg (by rw [hv]; omega), hv]
  congr 2
  · omega
  · rw [spellP, List.length_append]; simp only [List.length_cons, List.length_nil]; omega
theorem itemP_item {s : ByteArray} {a : Nat} {x : Int × Int} {r : List UInt8} (h : rest s a = itemT x ++ r) (h0 : 0 ≤ x.1) (h1 : x.1 ≤ x.2) (h2 : x.2 ≤ 1114111) (hr : ∀ c, r.head? = some c → c = 32) :
    itemP s a = .ok (x, a + (itemT x).length) := by
  have hr2 : ∀ c, r.head? = some c → isHexN (c.toNat : Int) = false := fun c hc => by rw [hr c hc]; rfl
  have hrs : ¬ (r.head? ≠ none ∧ r.head? ≠ some 32) := by
    rintro ⟨k1, k2⟩
    cases hc : r.head? with
    | none => exact k1 hc
    | some c => rw [hc, hr c hc] at k2; exact k2 rfl
  unfold itemT at h ⊢
  by_cases he : x.2 = x.1
  · rw [if_pos he, List.append_nil] at h ⊢
    have k1 := runeP_spell h ⟨h0, by omega⟩ hr2
    have k2 := rest_add h
    unfold itemP
    rw [k1]; simp only
    rw [k2, if_neg (fun e => by have := hr _ e; simp at this)]
    simp only
    rw [k2, if_neg (by omega), if_neg hrs]
    congr 2
    exact Prod.ext rfl he.symm
  · rw [if_neg he] at h ⊢
    rw [List.append_assoc, List.cons_append] at h
    have k1 := runeP_spell h ⟨h0, by omega⟩ (fun c hc => by simp at hc; subst hc; rfl)
    have k2 := rest_add h
    have k3 : rest s (a + (spellP x.1).length + 1) = spellP x.2 ++ r := rest_add (d := [45]) (by rw [k2]; rfl)
    have k4 := runeP_spell k3 ⟨by omega, h2⟩ hr2
    have k5 := rest_add k3
    unfold itemP
    rw [k1]; simp only
    rw [k2, if_pos (by rfl), k4]
    simp only
    rw [k5, if_neg (by omega), if_neg hrs]
    congr 2
    rw [List.length_append, List.length_cons]; omega
theorem itemT_head (x : Int × Int) (r : List UInt8) : (itemT x ++ r).head? = some 85 := by unfold itemT spellP; rfl
theorem parse_print {s : ByteArray} : ∀ (L : List (Int × Int)) (f a : Nat) (acc : List (Int × Int)), (∀ x ∈ L, 0 ≤ x.1 ∧ x.1 ≤ x.2 ∧ x.2 ≤ 1114111) → rest s a = printL L → 2 * L.length < f + 1 → parseGo s f a acc = .ok (acc ++ L)
  | [], f, a, acc, _, h, hf => by
    cases f with
    | zero => simp [parseGo]
    | succ f => unfold parseGo; rw [h]; simp [printL]
  | x :: L, f, a, acc, hb, h, hf => by
    obtain ⟨f, rfl⟩ : ∃ g, f = g + 1 := ⟨f - 1, by simp at hf; omega⟩
    have hx := hb x (by simp)
    cases L with
    | nil =>
      have h' : rest s a = itemT x ++ [] := by rw [h]; simp [printL]
      have k := itemP_item h' hx.1 hx.2.1 hx.2.2 (by simp)
      have kr := rest_add h'
      unfold parseGo
      rw [h', itemT_head]; simp only
      rw [if_neg (by decide), k]
      simp only
      have := parse_print [] f (a + (itemT x).length) (acc ++ [x]) (by simp) (by rw [kr]; rfl) (by simp at hf ⊢)
      rw [this]; simp
    | cons y L =>
      have h' : rest s a = itemT x ++ 32 :: printL (y :: L) := by rw [h]; rfl
      have k := itemP_item h' hx.1 hx.2.1 hx.2.2 (by simp)
      have kr := rest_add h'
      unfold parseGo
      rw [h', itemT_head]; simp only
      rw [if_neg (by decide), k]
      simp only
      obtain ⟨f, rfl⟩ : ∃ g, f = g + 1 := ⟨f - 1, by simp at hf; omega⟩
      unfold parseGo
      rw [kr]; simp only [List.head?_cons, if_true]
      have := parse_print (y :: L) f (a + (itemT x).length + 1) (acc ++ [x]) (fun z hz => hb z (by simp [hz])) (rest_add (d := [32]) (by rw [kr]; rfl)) (by simp only [List.length_cons] at hf ⊢; omega)
      rw [this]; simp
theorem printL_ge : ∀ (l : List (Int × Int)), 2 * l.length ≤ (printL l).length
  | [] => by simp
  | [x] => by unfold printL itemT spellP; simp
  | x :: y :: r => by
    have ih := printL_ge (y :: r)
    rw [printL, List.length_append, List.length_cons]
    unfold itemT spellP
    simp only [List.length_append, List.length_cons] at ih ⊢; omega
/-- What is printed is read as the same set. -/
theorem parse_printP (l : List (Int × Int)) : parseP ⟨(printP l).toArray⟩ = .ok (normR l) := by
  have hz : (⟨(printP l).toArray⟩ : ByteArray).size = (printP l).length := by rw [← size_data]
  unfold parseP
  rw [hz]
  have := printL_ge (normR l)
  refine parse_print (normR l) _ 0 [] (fun x hx => ?_) ?_ (by unfold printP; omega)
  · have h1 := (normR_NF l).2 x hx
    have h2 := Nf_le (normR_nf l) x hx
    omega
  · unfold rest printP; simp
end Go.Proofs.YtejccafolfeabaaGreatDoor

/-
  PLAIN: the text of a database; read again it is the same one; how long it is. No walk.
-/
namespace Go.Proofs.YtejccafolfeabaaGreatDoor

/-- A set's spelling, a blank behind each range. -/
def setT : List (Int × Int) → List UInt8
  | [] => []
  | x :: r => itemT x ++ 32 :: setT r
theorem setT_eq : ∀ (l : List (Int × Int)), setT l = printL l ++ (if l = [] then [] else [32])
  | [] => rfl
  | [x] => by simp [setT, printL]
  | x :: y :: r => by
    have ih := setT_eq (y :: r)
    rw [setT, ih, printL]; simp
theorem setT_len : ∀ (l : List (Int × Int)), (setT l).length ≤ 18 * l.length
  | [] => by simp [setT]
  | x :: r => by have := itemT_len x; have := setT_len r; rw [setT, List.length_append, List.length_cons, List.length_cons]; omega
theorem parse_set {s : ByteArray} : ∀ (L : List (Int × Int)) (f a : Nat) (acc : List (Int × Int)), (∀ x ∈ L, 0 ≤ x.1 ∧ x.1 ≤ x.2 ∧ x.2 ≤ 1114111) → rest s a = setT L → 2 * L.length < f + 1 → parseGo s f a acc = .ok (acc ++ L)
  | [], f, a, acc, _, h, hf => by
    cases f with
    | zero => simp [parseGo]
    | succ f => unfold parseGo; rw [h]; simp [setT]
  | x :: L, f, a, acc, hb, h, hf => by
    obtain ⟨f, rfl⟩ : ∃ g, f = g + 1 := ⟨f - 1, by simp at hf; omega⟩
    have hx := hb x (by simp)
    have h' : rest s a = itemT x ++ 32 :: setT L := h
    have k := itemP_item h' hx.1 hx.2.1 hx.2.2 (by simp)
    have kr := rest_add h'
    unfold parseGo
    rw [h', itemT_head]; simp only
    rw [if_neg (by decide), k]
    simp only
    obtain ⟨f, rfl⟩ : ∃ g, f = g + 1 := ⟨f - 1, by simp at hf; omega⟩
    unfold parseGo
    rw [kr]; simp only [List.head?_cons, if_true]
    have := parse_set L f (a + (itemT x).length + 1) (acc ++ [x]) (fun z hz => hb z (by simp [hz])) (rest_add (d := [32]) (by rw [kr]; rfl)) (by simp only [List.length_cons] at hf ⊢; omega)
    rw [this]; simp
theorem setT_ge : ∀ (l : List (Int × Int)), 2 * l.length ≤ (setT l).length
  | [] => by simp [setT]
  | x :: r => by
    have ih := setT_ge r
    rw [setT, List.length_append, List.length_cons, List.length_cons]
    unfold itemT spellP; simp only [List.length_append, List.length_cons]; omega
/-- Bytes that part nothing. -/
def OkB (c : UInt8) : Prop := c ≠ 35 ∧ c ≠ 39 ∧ c ≠ 59 ∧ c ≠ 10 ∧ c ≠ 9
theorem hexS_ok (n : Nat) : ∀ c ∈ hexS n, OkB c := fun c hc => by
  have := of_decide_eq_true (show isHexN (c.toNat : Int) = true from hexW_all _ _ c hc)
  refine ⟨?_, ?_, ?_, ?_, ?_⟩ <;> (rintro rfl; simp at this)
theorem spellP_ok (r : Int) : ∀ c ∈ spellP r, OkB c := fun c hc => by
  rcases List.mem_append.1 hc with hc | hc
  · simp only [List.mem_cons, List.not_mem_nil, or_false] at hc
    rcases hc with rfl | rfl <;> (unfold OkB; decide)
  · exact hexS_ok _ c hc
theorem itemT_ok (x : Int × Int) : ∀ c ∈ itemT x, OkB c := fun c hc => by
  rcases List.mem_append.1 hc with hc | hc
  · exact spellP_ok _ c hc
  · split at hc
    · simp at hc
    · rcases List.mem_cons.1 hc with rfl | hc
      · (unfold OkB; decide)
      · exact spellP_ok _ c hc
theorem setT_ok : ∀ (l : List (Int × Int)), ∀ c ∈ setT l, OkB c
  | [], c, hc => by simp [setT] at hc
  | x :: r, c, hc => by
    rcases List.mem_append.1 hc with hc | hc
    · exact itemT_ok x c hc
    · rcases List.mem_cons.1 hc with rfl | hc
      · (unfold OkB; decide)
      · exact setT_ok r c hc
theorem spcL_ok {l : List UInt8} (h : ∀ c ∈ l, OkB c) : spcL l = l := by
  unfold spcL
  conv => rhs; rw [← List.map_id l]
  refine List.map_congr_left fun c hc => ?_
  rw [if_neg (h c hc).2.2.2.2]; rfl
theorem parse_setT {l : List (Int × Int)} (h : NF l) : parseE (spcL (setT l)) = .ok l := by
  rw [spcL_ok (setT_ok l)]
  unfold parseE parseP
  have := parse_set (s := bytesOf (setT l)) l ((bytesOf (setT l)).size + 1) 0 [] (fun x hx => by have := h.2 x hx; have := Nf_le h.1 x hx; omega) (by unfold rest; rw [bytesOf_list, List.drop_zero]) (by rw [bytesOf_size]; have := setT_ge l; omega)
  rw [this]; rfl
theorem part_ok {c : UInt8} (h : partB c = true) : OkB c ∧ blkB c = false := by
  refine ⟨⟨?_, ?_, ?_, ?_, ?_⟩, ?_⟩
  · rintro rfl; exact absurd h (by decide)
  · rintro rfl; exact absurd h (by decide)
  · rintro rfl; exact absurd h (by decide)
  · rintro rfl; exact absurd h (by decide)
  · rintro rfl; exact absurd h (by decide)
  · cases hb : blkB c with
    | false => rfl
    | true =>
      exfalso
      simp only [blkB, Bool.or_eq_true, beq_iff_eq] at hb
      rcases hb with rfl | rfl
      · exact absurd h (by decide)
      · exact absurd h (by decide)
theorem name_part {n : List UInt8} (h : nameL n = true) : n ≠ [] ∧ n.length ≤ 32 ∧ ∀ c ∈ n, partB c = true := by
  cases n with
  | nil => cases h
  | cons x r =>
    simp only [nameL, Bool.and_eq_true, decide_eq_true_eq, List.all_eq_true] at h
    refine ⟨by simp, by simp only [List.length_cons]; omega, fun c hc => ?_⟩
    rcases List.mem_cons.1 hc with rfl | hc
    · unfold partB; rw [h.1.1]; rfl
    · exact h.1.2 c hc
theorem name_bare {n : List UInt8} (h : nameL n = true) : Bare n := by
  obtain ⟨h1, _, h3⟩ := name_part h
  refine .inr ⟨⟨n.head h1, by rw [List.head?_eq_some_head h1], (part_ok (h3 _ (List.head_mem h1))).2⟩, ⟨n.getLast h1, by rw [List.getLast?_eq_some_getLast h1], (part_ok (h3 _ (List.getLast_mem h1))).2⟩⟩
/-- What a class says as a line. -/
def lineT (s : List (Int × Int)) (n : List UInt8) : List UInt8 := setT s ++ (59 :: 32 :: n)
theorem qtL_no {x : UInt8} {r : List UInt8} (h : x ≠ 39) : qtL (x :: r) = none := by rw [qtL_cons, if_neg (fun k => h k.1)]
theorem findP_none {c : UInt8} : ∀ {l : List UInt8}, (∀ x ∈ l, x ≠ 39 ∧ x ≠ c) → findP c l = none
  | [], _ => rfl
  | x :: r, h => by rw [findP_cons (qtL_no (h x (by simp)).1), if_neg (h x (by simp)).2, findP_none (fun y hy => h y (by simp [hy]))]; rfl
theorem findP_first {c : UInt8} (hc : c ≠ 39) (r : List UInt8) : ∀ {l : List UInt8}, (∀ x ∈ l, x ≠ 39 ∧ x ≠ c) → findP c (l ++ c :: r) = some l.length
  | [], _ => by rw [List.nil_append, findP_cons (qtL_no hc), if_pos rfl]; rfl
  | x :: l, h => by rw [List.cons_append, findP_cons (qtL_no (h x (by simp)).1), if_neg (h x (by simp)).2, findP_first hc r (fun y hy => h y (by simp [hy]))]; rfl
theorem lineT_ok {s : List (Int × Int)} {n : List UInt8} (h : nameL n = true) : ∀ c ∈ lineT s n, c ≠ 35 ∧ c ≠ 39 ∧ c ≠ 10 := fun c hc => by
  rcases List.mem_append.1 hc with hc | hc
  · have := setT_ok s c hc; exact ⟨this.1, this.2.1, this.2.2.2.1⟩
  · simp only [List.mem_cons] at hc
    rcases hc with rfl | rfl | hc
    · decide
    · decide
    · have := (part_ok ((name_part h).2.2 c hc)).1; exact ⟨this.1, this.2.1, this.2.2.2.1⟩
theorem lineT_bare {s : List (Int × Int)} {n : List UInt8} (h : nameL n = true) : Bare (lineT s n) := by
  obtain ⟨h1, _, h3⟩ := name_part h
  refine .inr ⟨?_, ⟨n.getLast h1, ?_, (part_ok (h3 _ (List.getLast_mem h1))).2⟩⟩
  · cases s with
    | nil => exact ⟨59, rfl, by decide⟩
    | cons x r => exact ⟨85, by unfold lineT setT; rw [List.append_assoc, itemT_head], by decide⟩
  · unfold lineT
    rw [List.getLast?_append, List.getLast?_cons_cons, List.getLast?_cons, List.getLast?_eq_some_getLast h1]; simp
theorem line_says {s : List (Int × Int)} {n : List UInt8} (h : nameL n = true) : lineP (lineT s n) = .says n (setT s) := by
  unfold lineP hashP
  rw [findP_none (fun c hc => ⟨(lineT_ok h c hc).2.1, (lineT_ok h c hc).1⟩), Option.getD_none, List.take_length]
  have ht : trimL (lineT s n) = lineT s n := by
    have := trim_unique (b := []) (u := lineT s n) (e := []) (by simp) (by simp) (lineT_bare h)
    simpa using this
  simp only
  rw [ht, if_neg (by unfold lineT; simp)]
  have hf : findP 59 (lineT s n) = some (setT s).length := by
    unfold lineT
    exact findP_first (by decide) _ fun c hc => ⟨(setT_ok s c hc).2.1, (setT_ok s c hc).2.2.1⟩
  rw [hf]
  simp only
  congr 1
  · unfold lineT
    rw [← List.drop_drop, List.drop_left, List.drop_one, List.tail_cons]
    have := trim_unique (b := [32]) (u := n) (e := []) (by simp [blkB]) (by simp) (name_bare h)
    simpa using this
  · unfold lineT; rw [List.take_left]

/-- The text of classes. -/
def textG : List (List UInt8) → List (List (Int × Int)) → List UInt8
  | n :: N, s :: S => lineT s n ++ 10 :: textG N S
  | _, _ => []
def DbP.text (d : DbP) : List UInt8 := textG d.names.tail d.sets.tail
theorem splitL_line {x r : List UInt8} (h : ∀ c ∈ x, c ≠ 10) : splitL (x ++ 10 :: r) = x :: splitL r := by
  induction x with
  | nil => rw [List.nil_append]; show (if (10 : UInt8) = 10 then _ else _) = _; rw [if_pos rfl]
  | cons c x ih =>
    rw [List.cons_append]
    show (if c = 10 then _ else _) = _
    rw [if_neg (h c (by simp)), ih (fun d hd => h d (by simp [hd]))]
theorem split_text : ∀ {N : List (List UInt8)} {S : List (List (Int × Int))}, (∀ n ∈ N, nameL n = true) → splitL (textG N S) = (List.zipWith lineT S N) ++ [[]]
  | [], S, _ => by cases S <;> rfl
  | n :: N, [], _ => rfl
  | n :: N, s :: S, h => by
    rw [textG, splitL_line (fun c hc => (lineT_ok (h n (by simp)) c hc).2.2), split_text (fun m hm => h m (by simp [hm]))]; rfl
/-- A class's line adds the class. -/
theorem step_line {d : DbP} {n : List UInt8} {s : List (Int × Int)} (hn : nameL n = true) (ho : n ≠ otherL) (hs : NF s) (hnew : n ∉ d.names) (hl : d.names.length < 64) (hnf : ∀ q ∈ d.sets, NF q) (hcl : ∀ q ∈ d.sets, ∀ r, memR q r → memR s r → False) :
    stepL d (lineT s n) = .ok ⟨d.names ++ [n], d.sets ++ [s]⟩ := by
  unfold stepL
  rw [line_says hn]
  simp only
  unfold addL
  rw [if_neg (by rintro (h | h); rw [hn] at h; cases h; exact ho h), parse_setT hs]
  simp only
  have h0 : d.num n = none := by
    cases h : d.num n with
    | none => rfl
    | some k => exact absurd (List.mem_of_getElem? (idxOf?_some h)) hnew
  rw [h0]
  simp only
  have hc : d.clash d.names.length (normR s) = false := by
    unfold DbP.clash
    rw [List.any_eq_false]
    intro k hk
    have hlt := List.mem_range.1 hk
    have hq : d.sets.getD k [] ∈ d.sets := by rw [List.getD_eq_getElem?_getD, List.getElem?_eq_getElem hlt]; exact List.getElem_mem hlt
    have : meetB (d.sets.getD k []) (normR s) = false := by
      cases hm : meetB (d.sets.getD k []) (normR s) with
      | false => rfl
      | true =>
        obtain ⟨r, h1, h2⟩ := (meetB_iff (hnf _ hq).1 (normR_nf s)).1 hm
        rw [normR_of_NF hs] at h2
        exact (hcl _ hq r h1 h2).elim
    rw [this]; simp
  rw [if_neg (by omega), hc, if_neg (by simp)]
  have : orR [] (normR s) = s := by unfold orR; rw [List.nil_append, normR_of_NF (normR_NF s), normR_of_NF hs]
  rw [this]
theorem lines_back : ∀ {N : List (List UInt8)} {S : List (List (Int × Int))} {d : DbP} {i : Nat}, S.length = N.length → (∀ n ∈ N, nameL n = true ∧ n ≠ otherL) → (d.names ++ N).Nodup → (d.names ++ N).length ≤ 64 → (∀ q ∈ d.sets ++ S, NF q) → Apart (d.sets ++ S) →
    linesGo d (List.zipWith lineT S N ++ [[]]) i = .ok ⟨d.names ++ N, d.sets ++ S⟩
  | [], S, d, i, hl, _, _, _, _, _ => by
    have : S = [] := List.eq_nil_of_length_eq_zero (by simpa using hl)
    subst this
    simp only [List.zipWith_nil_right, List.nil_append, List.append_nil]
    unfold linesGo
    have : stepL d [] = .ok d := rfl
    rw [this]; rfl
  | n :: N, [], d, i, hl, _, _, _, _, _ => by simp at hl
  | n :: N, s :: S, d, i, hl, hn, hd, h64, hq, ha => by
    rw [List.zipWith_cons_cons, List.cons_append]
    unfold linesGo
    have h1 := hn n (by simp)
    have hnew : n ∉ d.names := fun hm => by
      rw [List.nodup_append] at hd
      exact hd.2.2 n hm n (by simp) rfl
    rw [step_line h1.1 h1.2 (hq s (by simp)) hnew (by simp only [List.length_append, List.length_cons] at h64; omega) (fun q hqq => hq q (by simp [hqq])) (fun q hqq r ra rb => ?_)]
    · simp only
      have := lines_back (N := N) (S := S) (d := ⟨d.names ++ [n], d.sets ++ [s]⟩) (i := i + 1) (by simpa using hl) (fun m hm => hn m (by simp [hm])) (by simpa using hd) (by simpa using h64) (by simpa using hq) (by simpa using ha)
      rw [this]; simp
    · obtain ⟨k, hk, rfl⟩ := List.getElem_of_mem hqq
      exact ha k d.sets.length _ s (by rw [List.getElem?_append_left hk, List.getElem?_eq_getElem hk]) (by rw [List.getElem?_append_right (Nat.le_refl _), Nat.sub_self]; rfl) (by omega) r ra rb
def DbP.Named (d : DbP) : Prop := ∀ n ∈ d.names, nameL n = true
/-- What a database says as a text is read as the same. -/
theorem text_back {d : DbP} (h : d.Ok) (ha : Apart d.sets) (hn : d.Named) (hlen : d.text.length ≤ 65536) : newP d.text = .ok d := by
  obtain ⟨names, sets⟩ := d
  obtain ⟨h1, h2, h3, h4, h5, h6⟩ := h
  simp only at h1 h2 h3 h4 h5 h6
  cases names with
  | nil => simp at h4
  | cons n N =>
    cases sets with
    | nil => simp at h5
    | cons s S =>
      simp at h4 h5
      subst h4; subst h5
      unfold newP
      rw [if_neg (by omega)]
      unfold DbP.text
      simp only [List.tail_cons]
      rw [split_text (fun m hm => hn m (by simp [hm]))]
      refine lines_back (N := N) (S := S) (d := DbP.first) (i := 0) (by simpa using h1) (fun m hm => ⟨hn m (by simp [hm]), fun e => ?_⟩) h3 h6 h2 ha
      rw [List.nodup_cons] at h3
      exact h3.1 (e ▸ hm)

/- How long it is. -/
theorem addL_named {d d' : DbP} {n s : List UInt8} (h : d.Named) (ha : addL d n s = .ok d') : d'.Named := by
  unfold addL at ha
  split at ha
  · cases ha
  · rename_i hn
    split at ha
    · cases ha
    · split at ha
      · split at ha
        · cases ha
        · injection ha with ha; subst ha; exact h
      · split at ha
        · cases ha
        · split at ha
          · cases ha
          · injection ha with ha; subst ha
            intro m hm
            rcases List.mem_append.1 hm with hm | hm
            · exact h m hm
            · simp at hm; subst hm
              cases hb : nameL m with
              | true => rfl
              | false => exact absurd (.inl hb) hn
theorem linesGo_named : ∀ {L : List (List UInt8)} {d d' : DbP} {i : Nat}, d.Named → linesGo d L i = .ok d' → d'.Named
  | [], d, d', i, h, hs => by injection hs with hs; subst hs; exact h
  | l :: r, d, d', i, h, hs => by
    unfold linesGo at hs
    split at hs
    · cases hs
    · rename_i d2 h2
      refine linesGo_named ?_ hs
      unfold stepL at h2
      split at h2
      · injection h2 with h2; subst h2; exact h
      · cases h2
      · exact addL_named h h2
theorem newP_named {t : List UInt8} {d : DbP} (h : newP t = .ok d) : d.Named := by
  unfold newP at h
  split at h
  · cases h
  · exact linesGo_named (fun n hn => by simp [DbP.first] at hn; subst hn; decide) h
end Go.Proofs.YtejccafolfeabaaGreatDoor

/-
  PLAIN: the laws of sets in normal form: a Boolean algebra, list for list; how many; numbers there and back. No walk.
-/
namespace Go.Proofs.YtejccafolfeabaaGreatDoor

theorem hasB_congr {a b : List (Int × Int)} (h : ∀ r, hasP a r ↔ hasP b r) (r : Int) : hasB a r = hasB b r := by
  rw [Bool.eq_iff_iff, hasB_iff, hasB_iff]; exact h r
theorem range_dec (r : Int) (l : List (Int × Int)) : hasP l r ∨ ¬ hasP l r := Classical.em _
theorem not_not_R (a : List (Int × Int)) : notR (notR a) = normR a := by
  refine NF_ext (notR_NF _) (normR_NF _) fun r => ?_
  rw [hasP_notR, hasP_notR, hasP_normR]
  constructor
  · rintro ⟨h0, h1, h⟩; exact Classical.byContradiction fun k => h ⟨h0, h1, k⟩
  · intro h; exact ⟨h.1, h.2.1, fun k => k.2.2 h⟩
theorem or_self_R (a : List (Int × Int)) : orR a a = normR a := by
  refine NF_ext (orR_NF _ _) (normR_NF _) fun r => ?_
  rw [hasP_orR, hasP_normR]; exact or_self_iff
theorem and_self_R (a : List (Int × Int)) : andR a a = normR a := by
  refine NF_ext (andR_NF _ _) (normR_NF _) fun r => ?_
  rw [hasP_andR, hasP_normR]; exact and_self_iff
theorem NF_nil : NF [] := ⟨trivial, by simp⟩
theorem and_not_R (a : List (Int × Int)) : andR a (notR a) = [] := by
  refine NF_ext (andR_NF _ _) NF_nil fun r => ?_
  rw [hasP_andR, hasP_notR]
  constructor
  · rintro ⟨h, _, _, k⟩; exact absurd h k
  · rintro ⟨_, _, h⟩; exact absurd h (memR_nil r)
theorem hasP_nil (r : Int) : ¬ hasP [] r := fun h => memR_nil r h.2.2
theorem or_not_R (a : List (Int × Int)) : orR a (notR a) = notR [] := by
  refine NF_ext (orR_NF _ _) (notR_NF _) fun r => ?_
  rw [hasP_orR, hasP_notR, hasP_notR]
  constructor
  · rintro (h | ⟨h0, h1, _⟩)
    · exact ⟨h.1, h.2.1, hasP_nil r⟩
    · exact ⟨h0, h1, hasP_nil r⟩
  · rintro ⟨h0, h1, _⟩
    rcases Classical.em (hasP a r) with h | h
    · exact .inl h
    · exact .inr ⟨h0, h1, h⟩
theorem and_all_R (a : List (Int × Int)) : andR a (notR []) = normR a := by
  refine NF_ext (andR_NF _ _) (normR_NF _) fun r => ?_
  rw [hasP_andR, hasP_notR, hasP_normR]
  exact ⟨fun h => h.1, fun h => ⟨h, h.1, h.2.1, hasP_nil r⟩⟩
theorem or_comm_R (a b : List (Int × Int)) : orR a b = orR b a := by
  refine NF_ext (orR_NF _ _) (orR_NF _ _) fun r => ?_
  rw [hasP_orR, hasP_orR]; exact or_comm
theorem and_comm_R (a b : List (Int × Int)) : andR a b = andR b a := by
  refine NF_ext (andR_NF _ _) (andR_NF _ _) fun r => ?_
  rw [hasP_andR, hasP_andR]; exact and_comm
theorem not_or_R (a b : List (Int × Int)) : notR (orR a b) = andR (notR a) (notR b) := by
  refine NF_ext (notR_NF _) (andR_NF _ _) fun r => ?_
  rw [hasP_notR, hasP_andR, hasP_notR, hasP_notR, hasP_orR]
  constructor
  · rintro ⟨h0, h1, h⟩; exact ⟨⟨h0, h1, fun k => h (.inl k)⟩, h0, h1, fun k => h (.inr k)⟩
  · rintro ⟨⟨h0, h1, h⟩, _, _, k⟩; exact ⟨h0, h1, fun q => q.elim h k⟩
theorem or_and_R (a b : List (Int × Int)) : orR a (andR a b) = normR a := by
  refine NF_ext (orR_NF _ _) (normR_NF _) fun r => ?_
  rw [hasP_orR, hasP_andR, hasP_normR]
  exact ⟨fun h => h.elim id And.left, .inl⟩
theorem and_or_R (a b c : List (Int × Int)) : andR a (orR b c) = orR (andR a b) (andR a c) := by
  refine NF_ext (andR_NF _ _) (orR_NF _ _) fun r => ?_
  rw [hasP_andR, hasP_orR, hasP_orR, hasP_andR, hasP_andR]; exact and_or_left
theorem or_assoc_R (a b c : List (Int × Int)) : orR a (orR b c) = orR (orR a b) c := by
  refine NF_ext (orR_NF _ _) (orR_NF _ _) fun r => ?_
  rw [hasP_orR, hasP_orR, hasP_orR, hasP_orR]; exact or_assoc.symm
theorem normR_idem (a : List (Int × Int)) : normR (normR a) = normR a := normR_of_NF (normR_NF a)
theorem hasB_orR (a b : List (Int × Int)) (r : Int) : hasB (orR a b) r = (hasB a r || hasB b r) := by
  rw [Bool.eq_iff_iff, Bool.or_eq_true, hasB_iff, hasB_iff, hasB_iff, hasP_orR]
theorem hasB_andR (a b : List (Int × Int)) (r : Int) : hasB (andR a b) r = (hasB a r && hasB b r) := by
  rw [Bool.eq_iff_iff, Bool.and_eq_true, hasB_iff, hasB_iff, hasB_iff, hasP_andR]
theorem hasB_minusR (a b : List (Int × Int)) (r : Int) : hasB (minusR a b) r = (hasB a r && !hasB b r) := by
  rw [Bool.eq_iff_iff, Bool.and_eq_true, Bool.not_eq_true', ← Bool.not_eq_true, hasB_iff, hasB_iff, hasB_iff, hasP_minusR]
theorem hasB_notR' (a : List (Int × Int)) (r : Int) : hasB (notR a) r = ((decide (0 ≤ r) && decide (r ≤ 1114111)) && !hasB a r) := by
  rw [Bool.eq_iff_iff, Bool.and_eq_true, Bool.and_eq_true, Bool.not_eq_true', ← Bool.not_eq_true, hasB_iff, hasB_iff, hasP_notR, decide_eq_true_eq, decide_eq_true_eq]
  exact and_assoc.symm
theorem hasB_normR2 (a : List (Int × Int)) (r : Int) : hasB (normR a) r = hasB a r := hasB_congr (hasP_normR a) r

/- How many. -/
def sumTo (f : Nat → Int) : Nat → Int
  | 0 => 0
  | n + 1 => sumTo f n + f n
theorem sumTo_congr {f g : Nat → Int} : ∀ n, (∀ i, i < n → f i = g i) → sumTo f n = sumTo g n
  | 0, _ => rfl
  | n + 1, h => by rw [sumTo, sumTo, sumTo_congr n (fun i hi => h i (by omega)), h n (by omega)]
theorem sumTo_add (f g : Nat → Int) : ∀ n, sumTo (fun i => f i + g i) n = sumTo f n + sumTo g n
  | 0 => rfl
  | n + 1 => by rw [sumTo, sumTo, sumTo, sumTo_add f g n]; omega
theorem sumTo_span (lo hi : Int) (h0 : 0 ≤ lo) (h1 : lo ≤ hi) : ∀ n : Nat, sumTo (fun i => if lo ≤ (i : Int) ∧ (i : Int) ≤ hi then 1 else 0) n = max 0 (min hi ((n : Int) - 1) - lo + 1)
  | 0 => by simp [sumTo]; omega
  | n + 1 => by
    rw [sumTo, sumTo_span lo hi h0 h1 n]
    split <;> omega
theorem sumTo_zero : ∀ n, sumTo (fun _ => 0) n = 0
  | 0 => rfl
  | n + 1 => by rw [sumTo, sumTo_zero n]; rfl
def ind (l : List (Int × Int)) (i : Nat) : Int := if memB l i then 1 else 0
where memB (l : List (Int × Int)) (i : Nat) : Bool := l.any fun x => decide (x.1 ≤ (i : Int)) && decide ((i : Int) ≤ x.2)
theorem memB_iff (l : List (Int × Int)) (i : Nat) : ind.memB l i = true ↔ memR l (i : Int) := by
  simp [ind.memB, memR, List.any_eq_true]
theorem cnt_sum : ∀ {l : List (Int × Int)} (_ : Nf l) (_ : ∀ x ∈ l, 0 ≤ x.1 ∧ x.2 ≤ 1114111), cntR l = sumTo (ind l) 1114112
  | [], _, _ => by
    rw [sumTo_congr (g := fun _ => 0) _ (fun i _ => by simp [ind, ind.memB]), sumTo_zero]; rfl
  | x :: l, hn, hb => by
    have hx := hb x (by simp)
    have ih := cnt_sum (l := l) hn.2.2 (fun z hz => hb z (by simp [hz]))
    rw [cntR, ih]
    have e : ∀ i, i < 1114112 → ind (x :: l) i = (if x.1 ≤ (i : Int) ∧ (i : Int) ≤ x.2 then 1 else 0) + ind l i := by
      intro i _
      have hi := memB_iff l i
      by_cases hx' : x.1 ≤ (i : Int) ∧ (i : Int) ≤ x.2
      · have hno : ¬ memR l (i : Int) := fun ⟨z, hz, h1, _⟩ => by have := hn.2.1 z hz; omega
        have hf : ind.memB l i = false := by
          cases hh : ind.memB l i with
          | false => rfl
          | true => exact absurd (hi.1 hh) hno
        have ht : ind.memB (x :: l) i = true := by simp [ind.memB, hx'.1, hx'.2]
        unfold ind; rw [ht, hf, if_pos rfl, if_pos hx', if_neg Bool.false_ne_true]; rfl
      · have ht : ind.memB (x :: l) i = ind.memB l i := by
          have : (decide (x.1 ≤ (i : Int)) && decide ((i : Int) ≤ x.2)) = false := by
            cases hq : (decide (x.1 ≤ (i : Int)) && decide ((i : Int) ≤ x.2)) with
            | false => rfl
            | true => simp at hq; exact absurd hq hx'
          simp only [ind.memB, List.any_cons, this, Bool.false_or]
        unfold ind; rw [ht, if_neg hx']; omega
    rw [sumTo_congr _ e, sumTo_add, sumTo_span x.1 x.2 hx.1 hn.1]
    have h1 := hn.1
    have e2 : min x.2 (((1114112 : Nat) : Int) - 1) = x.2 := Int.min_eq_left (by have : ((1114112 : Nat) : Int) = 1114112 := rfl; omega)
    rw [e2]
    omega
theorem count_or_and (a b : List (Int × Int)) : countR (orR a b) + countR (andR a b) = countR a + countR b := by
  have hor : normR (orR a b) = orR a b := normR_of_NF (orR_NF a b)
  have hand : normR (andR a b) = andR a b := normR_of_NF (andR_NF a b)
  unfold countR
  rw [hor, hand, cnt_sum (orR_NF a b).1 (orR_NF a b).2, cnt_sum (andR_NF a b).1 (andR_NF a b).2, cnt_sum (normR_NF a).1 (normR_NF a).2, cnt_sum (normR_NF b).1 (normR_NF b).2, ← sumTo_add, ← sumTo_add]
  refine sumTo_congr _ fun i hi => ?_
  have key : ∀ l, NF l → ind l i = if hasB l i then 1 else 0 := fun l hl => by
    have : ind.memB l i = hasB l i := by
      rw [Bool.eq_iff_iff, memB_iff, hasB_iff, NF_mem hl]
    unfold ind; rw [this]
  rw [key _ (orR_NF a b), key _ (andR_NF a b), key _ (normR_NF a), key _ (normR_NF b), hasB_orR, hasB_andR, hasB_normR2, hasB_normR2]
  cases hasB a i <;> cases hasB b i <;> rfl

/- Numbers there and back. -/
theorem atGo_mem : ∀ {l : List (Int × Int)} {i x : Int} (_ : 0 ≤ i) (_ : atGo l i = (x, true)), memR l x
  | [], i, x, _, h => by simp [atGo] at h
  | y :: t, i, x, h0, h => by
    rw [atGo_cons] at h
    split at h
    · injection h with h _; exact ⟨y, by simp, by omega⟩
    · obtain ⟨z, hz, h1⟩ := atGo_mem (l := t) (i := i - (y.2 - y.1 + 1)) (by omega) h
      exact ⟨z, by simp [hz], h1⟩
theorem at_ix : ∀ {l : List (Int × Int)} (_ : Nf l) {i x : Int} (_ : 0 ≤ i) (_ : atGo l i = (x, true)) (c : Int), ixGo x l c = (c + i, true)
  | [], _, i, x, _, h, _ => by simp [atGo] at h
  | y :: t, hn, i, x, h0, h, c => by
    rw [atGo_cons] at h
    split at h
    · rename_i hlt
      injection h with h _
      rw [ixGo_cons, if_pos (by omega)]
      congr 1; omega
    · rename_i hge
      obtain ⟨z, hz, h1⟩ := atGo_mem (l := t) (i := i - (y.2 - y.1 + 1)) (by omega) h
      have hyz := hn.2.1 z hz
      have ih := at_ix (l := t) hn.2.2 (i := i - (y.2 - y.1 + 1)) (by omega) h (c + (y.2 - y.1) + 1)
      rw [ixGo_cons, if_neg (by omega), ih]
      congr 1; omega
theorem ix_at : ∀ {l : List (Int × Int)} (_ : Nf l) {r n c : Int} (_ : ixGo r l c = (n, true)), c ≤ n ∧ n < c + cntR l ∧ atGo l (n - c) = (r, true)
  | [], _, r, n, c, h => by simp [ixGo] at h
  | y :: t, hn, r, n, c, h => by
    have hy := hn.1
    have hc : 0 ≤ cntR t := by
      have : ∀ {l : List (Int × Int)}, Nf l → 0 ≤ cntR l := fun {l} => by
        induction l with
        | nil => intro _; simp [cntR]
        | cons z l ih => intro h; have := ih h.2.2; have := h.1; simp only [cntR]; omega
      exact this hn.2.2
    rw [ixGo_cons] at h
    split at h
    · rename_i hin
      injection h with h _
      refine ⟨by omega, by simp only [cntR]; omega, ?_⟩
      rw [atGo_cons, if_pos (by omega)]
      congr 1; omega
    · obtain ⟨h1, h2, h3⟩ := ix_at (l := t) hn.2.2 h
      refine ⟨by omega, by simp only [cntR]; omega, ?_⟩
      rw [atGo_cons, if_neg (by omega)]
      rw [← h3]; congr 1; omega
theorem atR_ixR {l : List (Int × Int)} {i x : Int} (h : atR l i = (x, true)) : ixR l x = (i, true) := by
  unfold atR at h
  split at h
  · simp at h
  · have := at_ix (normR_nf l) (by omega) h 0
    unfold ixR; rw [this]; congr 1; omega
theorem ixR_atR {l : List (Int × Int)} {r n : Int} (h : ixR l r = (n, true)) : atR l n = (r, true) ∧ 0 ≤ n ∧ n ≤ 1114112 := by
  obtain ⟨h1, h2, h3⟩ := ix_at (normR_nf l) h
  have := (normR_NF l).cnt
  refine ⟨?_, h1, by omega⟩
  unfold atR; rw [if_neg (by omega)]
  rw [← h3]; congr 1; omega
end Go.Proofs.YtejccafolfeabaaGreatDoor

/-
  PLAIN: how long a database's text is; how many runes its classes have. No walk.
-/
namespace Go.Proofs.YtejccafolfeabaaGreatDoor

theorem runeP_ge {s : ByteArray} {a q : Nat} {r : Int} (h : runeP s a = .ok (r, q)) : a + 3 ≤ q := by
  unfold runeP at h
  split at h
  · unfold numP at h
    split at h
    · cases h
    · split at h
      · cases h
      · injection h with h; injection h with _ h; omega
  · split at h
    · unfold quoP at h
      split at h
      · cases h
      · split at h
        · cases h
        · split at h
          · cases h
          · injection h with h; injection h with _ h; omega
    · cases h
theorem itemP_ge {s : ByteArray} {a q : Nat} {x : Int × Int} (h : itemP s a = .ok (x, q)) : a + 3 ≤ q ∧ q ≤ s.size ∧ ((rest s q).head? = none ∨ (rest s q).head? = some 32) := by
  have hq := (itemP_ok h).2
  unfold itemP at h
  cases h1 : runeP s a with
  | error e => rw [h1] at h; cases h
  | ok y =>
    obtain ⟨lo, p⟩ := y
    have b1 := runeP_ge h1
    rw [h1] at h
    by_cases h45 : (rest s p).head? = some 45
    · simp only [h45, if_true] at h
      cases h2 : runeP s (p + 1) with
      | error e => rw [h2] at h; cases h
      | ok z =>
        obtain ⟨hi, q'⟩ := z
        have b2 := runeP_ge h2
        rw [h2] at h
        simp only at h
        split at h
        · cases h
        · split at h
          · cases h
          · rename_i k
            injection h with h; injection h with _ h; subst h
            refine ⟨by omega, hq, ?_⟩
            cases hh : (rest s q').head? with
            | none => exact .inl rfl
            | some c => by_cases hc : c = 32
                        · exact .inr (by rw [hc])
                        · exact absurd ⟨by rw [hh]; simp, by rw [hh]; simpa using hc⟩ k
    · simp only [h45, if_false] at h
      split at h
      · cases h
      · split at h
        · cases h
        · rename_i k
          injection h with h; injection h with _ h; subst h
          refine ⟨b1, hq, ?_⟩
          cases hh : (rest s p).head? with
          | none => exact .inl rfl
          | some c => by_cases hc : c = 32
                      · exact .inr (by rw [hc])
                      · exact absurd ⟨by rw [hh]; simp, by rw [hh]; simpa using hc⟩ k
/-- Each item has three bytes at least, and a blank or the end behind it. -/
theorem parse_len {s : ByteArray} : ∀ (f a : Nat) (acc l : List (Int × Int)), a ≤ s.size → parseGo s f a acc = .ok l →
    4 * l.length + a ≤ 4 * acc.length + s.size + 1 ∧ ((rest s a).head? = none ∨ (rest s a).head? = some 32 → 4 * l.length + a + 1 ≤ 4 * acc.length + s.size + 1)
  | 0, a, acc, l, ha, h => by
    unfold parseGo at h; injection h with h; subst h; omega
  | f + 1, a, acc, l, ha, h => by
    unfold parseGo at h
    cases hc : (rest s a).head? with
    | none => rw [hc] at h; injection h with h; subst h; omega
    | some c =>
      rw [hc] at h
      have hlt : a < s.size := by
        rcases Nat.lt_or_ge a s.size with hlt | hge
        · exact hlt
        · rw [rest_none hge] at hc; simp at hc
      by_cases h32 : c = 32
      · simp only [h32, if_true] at h
        have ih := (parse_len f (a + 1) acc l (by omega) h).1
        omega
      · simp only [h32, if_false] at h
        cases hi : itemP s a with
        | error e => rw [hi] at h; cases h
        | ok y =>
          obtain ⟨x, q⟩ := y
          rw [hi] at h
          obtain ⟨k1, k2, k3⟩ := itemP_ge hi
          have ih := (parse_len f q (acc ++ [x]) l k2 h).2 k3
          simp only [List.length_append, List.length_singleton] at ih
          refine ⟨by omega, fun hh => ?_⟩
          rcases hh with hh | hh
          · cases hh
          · injection hh with hh; exact absurd hh h32
theorem parseE_len {s : List UInt8} {l : List (Int × Int)} (h : parseE (spcL s) = .ok l) : 4 * l.length ≤ s.length + 1 := by
  unfold parseE at h
  cases hp : parseP (bytesOf (spcL s)) with
  | error e => rw [hp] at h; cases h
  | ok m =>
    rw [hp] at h
    injection h with h; subst h
    have := (parse_len _ 0 [] m (Nat.zero_le _) hp).1
    rw [bytesOf_size] at this
    simp [spcL] at this
    omega
theorem mstepLen (o : List (Int × Int)) (x : Int × Int) : (mstep o x).length ≤ o.length + 1 := by
  rcases snoc_cases o with rfl | ⟨q, y, rfl⟩
  · simp [mstep]
  · rw [mstep_snoc]; split <;> simp
theorem mergeLen (s o : List (Int × Int)) : (s.foldl mstep o).length ≤ o.length + s.length := by
  induction s generalizing o with
  | nil => simp
  | cons x s ih => rw [List.foldl_cons]; have := ih (mstep o x); have := mstepLen o x; simp only [List.length_cons]; omega
theorem normLen (l : List (Int × Int)) : (normR l).length ≤ l.length := by
  have h := mergeLen ((keepR l).mergeSort fun a b => decide (a.1 ≤ b.1)) []
  have h2 : (keepR l).length ≤ l.length := by unfold keepR; refine Nat.le_trans (List.length_filter_le _ _) ?_; simp
  unfold normR mergeR
  rw [List.length_mergeSort] at h
  simp only [List.length_nil] at h; omega
theorem orLen (a b : List (Int × Int)) : (orR a b).length ≤ a.length + b.length := by
  have := normLen (a ++ b); rw [List.length_append] at this; exact this

def lenS {α : Type} : List (List α) → Nat
  | [] => 0
  | x :: r => x.length + lenS r
theorem lenS_append {α : Type} : ∀ (a b : List (List α)), lenS (a ++ b) = lenS a + lenS b
  | [], b => by simp [lenS]
  | x :: a, b => by rw [List.cons_append, lenS, lenS, lenS_append a b]; omega
theorem lenS_set {α : Type} (y : List α) : ∀ (S : List (List α)) (c : Nat), c < S.length → lenS (S.set c y) + (S.getD c []).length = lenS S + y.length
  | [], c, h => by simp at h
  | x :: S, 0, _ => by simp [lenS]; omega
  | x :: S, c + 1, h => by
    have := lenS_set y S c (by simpa using h)
    rw [List.set_cons_succ, lenS, lenS, List.getD_cons_succ]; omega
theorem trimL_len (l : List UInt8) : (trimL l).length ≤ l.length := by
  obtain ⟨b, e, h, _⟩ := trimL_parts l
  have := congrArg List.length h
  simp only [List.length_append] at this; omega
theorem says_len {l n s : List UInt8} (h : lineP l = .says n s) : s.length + n.length + 1 ≤ l.length := by
  unfold lineP at h
  simp only at h
  split at h
  · cases h
  · split at h
    · cases h
    · rename_i j hj
      injection h with h1 h2
      have hu := trimL_len (l.take (hashP l))
      have hl : (l.take (hashP l)).length ≤ l.length := by rw [List.length_take]; omega
      have hlt := (List.getElem?_eq_some_iff.1 (findP_lt _ _ (Nat.le_refl _) j hj)).1
      have hn := trimL_len ((trimL (l.take (hashP l))).drop (j + 1))
      rw [h1, List.length_drop] at hn
      rw [← h2, List.length_take]; omega
/-- What a database's text costs. -/
def DbP.cost (d : DbP) : Nat := 18 * lenS d.sets + lenS d.names + 3 * d.names.length
theorem textG_len : ∀ (N : List (List UInt8)) (S : List (List (Int × Int))), (textG N S).length ≤ 18 * lenS S + lenS N + 3 * N.length
  | [], S => by cases S <;> simp [textG]
  | n :: N, [] => by simp [textG]
  | n :: N, s :: S => by
    have h1 := textG_len N S; have h2 := setT_len s
    rw [textG, List.length_append, List.length_cons, lineT, List.length_append, List.length_cons, List.length_cons, lenS, lenS, List.length_cons]; omega
theorem text_cost {d : DbP} (h : d.Ok) : d.text.length + 8 ≤ d.cost := by
  obtain ⟨names, sets⟩ := d
  obtain ⟨h1, h2, h3, h4, h5, h6⟩ := h
  simp only at h1 h2 h3 h4 h5 h6
  cases names with
  | nil => simp at h4
  | cons n N =>
    cases sets with
    | nil => simp at h5
    | cons s S =>
      simp at h4 h5
      subst h4; subst h5
      have := textG_len N S
      unfold DbP.text DbP.cost
      simp only [List.tail_cons, lenS, List.length_cons, List.length_nil, otherL]
      omega
theorem addL_cost {d d' : DbP} {n s : List UInt8} (ho : d.Ok) (h : addL d n s = .ok d') : 2 * d'.cost ≤ 2 * d.cost + 9 * (s.length + n.length + 2) := by
  unfold addL at h
  split at h
  · cases h
  · split at h
    · cases h
    · rename_i l hl
      have h1 := parseE_len hl
      have h2 := normLen l
      split at h
      · rename_i c hc
        split at h
        · cases h
        · injection h with h; subst h
          have hlt : c < d.sets.length := by rw [ho.len]; exact (List.getElem?_eq_some_iff.1 (idxOf?_some hc)).1
          have h3 := orLen (d.sets.getD c []) (normR l)
          have h4 := lenS_set (orR (d.sets.getD c []) (normR l)) d.sets c hlt
          unfold DbP.cost
          simp only
          omega
      · split at h
        · cases h
        · split at h
          · cases h
          · injection h with h; subst h
            have h3 := orLen [] (normR l)
            unfold DbP.cost
            simp only [lenS_append, lenS, List.length_append, List.length_cons, List.length_nil] at h3 ⊢
            omega
def lenL : List (List UInt8) → Nat
  | [] => 0
  | x :: r => x.length + 1 + lenL r
theorem split_len : ∀ (t : List UInt8), lenL (splitL t) = t.length + 1
  | [] => rfl
  | c :: r => by
    have ih := split_len r
    unfold splitL
    split
    · rw [lenL, ih]; simp; omega
    · cases hs : splitL r with
      | nil => rw [hs] at ih; simp [lenL] at ih
      | cons x t => rw [hs] at ih; simp only [lenL, List.length_cons] at ih ⊢; omega
theorem linesGo_cost : ∀ {L : List (List UInt8)} {d d' : DbP} {i : Nat}, d.Ok → linesGo d L i = .ok d' → 2 * d'.cost ≤ 2 * d.cost + 9 * lenL L
  | [], d, d', i, _, hs => by injection hs with hs; subst hs; omega
  | l :: r, d, d', i, ho, hs => by
    unfold linesGo at hs
    split at hs
    · cases hs
    · rename_i d2 h2
      have ih := linesGo_cost (stepL_ok ho h2) hs
      have h3 : 2 * d2.cost ≤ 2 * d.cost + 9 * (l.length + 1) := by
        unfold stepL at h2
        split at h2
        · injection h2 with h2; subst h2; omega
        · cases h2
        · rename_i n s hl
          have := says_len hl
          have := addL_cost ho h2
          omega
      rw [lenL]; omega
theorem newP_cost {t : List UInt8} {d : DbP} (h : newP t = .ok d) : 2 * d.cost ≤ 9 * t.length + 25 := by
  unfold newP at h
  split at h
  · cases h
  · have := linesGo_cost DbP.first_ok h
    rw [split_len] at this
    have e : DbP.first.cost = 8 := rfl
    omega
theorem newP_text {t : List UInt8} {d : DbP} (h : newP t = .ok d) (ht : t.length ≤ 12000) : d.text.length ≤ 65536 := by
  have := newP_cost h; have := text_cost (newP_ok h).1; omega
/-- There and back. -/
theorem newP_back {t : List UInt8} {d : DbP} (h : newP t = .ok d) (ht : t.length ≤ 12000) : newP d.text = .ok d :=
  text_back (newP_ok h).1 (newP_ok h).2 (newP_named h) (newP_text h ht)

/- The classes are apart and are all runes. -/
def DbP.full (d : DbP) : List (List (Int × Int)) := d.rest :: d.sets.tail
theorem hasP_flat {S : List (List (Int × Int))} {r : Int} : hasP S.flatten r ↔ ∃ s ∈ S, hasP s r := by
  constructor
  · rintro ⟨h0, h1, x, hx, h⟩
    obtain ⟨s, hs, hxs⟩ := List.mem_flatten.1 hx
    exact ⟨s, hs, h0, h1, x, hxs, h⟩
  · rintro ⟨s, hs, h0, h1, x, hx, h⟩
    exact ⟨h0, h1, x, List.mem_flatten.2 ⟨s, hs, hx⟩, h⟩
theorem full_NF {d : DbP} (h : d.Ok) : ∀ s ∈ d.full, NF s := fun s hs => by
  rcases List.mem_cons.1 hs with rfl | hs
  · exact notR_NF _
  · exact h.tailNF s hs
theorem full_len {d : DbP} (h : d.Ok) : d.full.length = d.names.length := by
  unfold DbP.full
  rw [List.length_cons, List.length_tail, h.len]
  cases hn : d.names with
  | nil => have := h.head; rw [hn] at this; cases this
  | cons n N => simp
theorem full_apart {d : DbP} (h : d.Ok) (ha : Apart d.sets) : Apart d.full := by
  have hrest : ∀ (j : Nat) (b : List (Int × Int)), d.sets.tail[j]? = some b → ∀ r, memR d.rest r → memR b r → False := fun j b hb r h1 h2 => by
    have hm := List.mem_of_getElem? hb
    have h3 := (NF_mem (h.tailNF b hm) r).2 h2
    have h4 := (NF_mem (notR_NF d.sets.tail.flatten) r).2 h1
    exact ((hasP_notR _ r).1 h4).2.2 (hasP_flat.2 ⟨b, hm, h3⟩)
  intro i j a b hi hj hij r h1 h2
  unfold DbP.full at hi hj
  cases i with
  | zero =>
    cases j with
    | zero => exact hij rfl
    | succ j => simp at hi hj; subst hi; exact hrest j b (by simpa using hj) r h1 h2
  | succ i =>
    cases j with
    | zero => simp at hi hj; subst hj; exact hrest i a (by simpa using hi) r h2 h1
    | succ j => exact DbP.tail_apart ha i j a b (by simpa using hi) (by simpa using hj) (by omega) r h1 h2
theorem full_all {d : DbP} (r : Int) (h0 : 0 ≤ r) (h1 : r ≤ 1114111) : ∃ s ∈ d.full, hasP s r := by
  by_cases hr : hasP d.sets.tail.flatten r
  · obtain ⟨s, hs, h⟩ := hasP_flat.1 hr
    exact ⟨s, List.mem_cons_of_mem _ hs, h⟩
  · exact ⟨d.rest, List.mem_cons_self, (hasP_notR _ r).2 ⟨h0, h1, hr⟩⟩
/-- Whether a rune lies in a class. -/
theorem has_get {d : DbP} (h : d.Ok) (ha : Apart d.sets) {i : Nat} {s : List (Int × Int)} (hi : d.full[i]? = some s) {r : Int} (h0 : 0 ≤ r) (h1 : r ≤ 1114111) : hasB s r = decide (d.get r = i) := by
  have hask : askR r = r := by unfold askR; rw [if_neg (by omega)]
  have hs := full_NF h s (List.mem_of_getElem? hi)
  have hg : ∃ q, d.full[d.get r]? = some q ∧ hasB q r = true := by
    unfold DbP.get
    rw [hask]
    rcases getGo_spec (r := r) (S := d.sets.tail) (i := 1) (by omega) with ⟨k1, k2⟩ | ⟨k, q, k1, k2, k3⟩
    · rw [k1]
      refine ⟨d.rest, rfl, hasB_true ((hasP_notR _ r).2 ⟨h0, h1, fun hr => ?_⟩)⟩
      obtain ⟨z, hz, hzr⟩ := hasP_flat.1 hr
      have := k2 z hz
      rw [hasB_true hzr] at this; cases this
    · rw [k3]
      refine ⟨q, ?_, k2⟩
      unfold DbP.full
      rw [Nat.add_comm, List.getElem?_cons_succ]; exact k1
  obtain ⟨q, hq, hqr⟩ := hg
  by_cases hi' : d.get r = i
  · subst hi'
    rw [hq] at hi; injection hi with hi; subst hi
    rw [hqr]; simp
  · have : hasB s r = false := by
      cases hb : hasB s r with
      | false => rfl
      | true =>
        exfalso
        exact full_apart h ha i (d.get r) s q hi hq (fun e => hi' e.symm) r ((NF_mem hs r).1 ((hasB_iff _ _).1 hb)) ((NF_mem (full_NF h q (List.mem_of_getElem? hq)) r).1 ((hasB_iff _ _).1 hqr))
    rw [this]; simp [hi']
theorem count_apart {a b : List (Int × Int)} (h : ∀ r, hasP a r → hasP b r → False) : countR (a ++ b) = countR a + countR b := by
  have h1 := count_or_and a b
  have h2 : andR a b = [] := NF_ext (andR_NF a b) NF_nil fun r => by
    rw [hasP_andR]; exact ⟨fun ⟨x, y⟩ => (h r x y).elim, fun x => (hasP_nil r x).elim⟩
  have h3 : countR (orR a b) = countR (a ++ b) := by unfold countR orR; rw [normR_idem]
  rw [h2, h3] at h1
  have h4 : countR [] = 0 := by unfold countR; rw [normR_of_NF NF_nil]; rfl
  omega
def cntS : List (List (Int × Int)) → Int
  | [] => 0
  | s :: S => countR s + cntS S
theorem count_flat : ∀ {S : List (List (Int × Int))}, Apart S → (∀ s ∈ S, NF s) → countR S.flatten = cntS S
  | [], _, _ => by unfold countR; rw [List.flatten_nil, normR_of_NF NF_nil]; rfl
  | s :: S, ha, hn => by
    rw [List.flatten_cons, count_apart, count_flat (apart_tail ha) (fun q hq => hn q (by simp [hq]))]
    · rfl
    · intro r h1 h2
      obtain ⟨q, hq, h3⟩ := hasP_flat.1 h2
      obtain ⟨k, hk, rfl⟩ := List.getElem_of_mem hq
      exact ha 0 (k + 1) s _ rfl (by rw [List.getElem?_cons_succ, List.getElem?_eq_getElem hk]) (by omega) r h1.2.2 h3.2.2
theorem count_full {d : DbP} (h : d.Ok) (ha : Apart d.sets) : cntS d.full = 1114112 ∧ countR d.full.flatten = 1114112 := by
  have h1 := count_flat (full_apart h ha) (full_NF h)
  have h2 : countR d.full.flatten = 1114112 := by
    have : normR d.full.flatten = [(0, 1114111)] := by
      refine NF_ext (normR_NF _) ⟨⟨by omega, by simp, trivial⟩, by simp⟩ fun r => ?_
      rw [hasP_normR, hasP_flat]
      constructor
      · rintro ⟨s, _, h0, h1, _⟩; exact ⟨h0, h1, _, List.mem_singleton.2 rfl, h0, h1⟩
      · rintro ⟨h0, h1, _⟩; exact full_all r h0 h1
    unfold countR; rw [this]; rfl
  exact ⟨by omega, h2⟩
end Go.Proofs.YtejccafolfeabaaGreatDoor

/-
  PLAIN: two databases crossed: the pairs of classes by their least runes. No walk.
-/
namespace Go.Proofs.YtejccafolfeabaaGreatDoor

/- All ranges, those of no class too, in order: they tile all runes. -/
def DbP.allE (d : DbP) : List (Int × Int × Nat) := entG 0 d.full
def DbP.allR (d : DbP) : List (Int × Int × Nat) := d.allE.mergeSort fun a b => decide (a.1 ≤ b.1)
theorem allR_rise (d : DbP) : RiseC d.allR := by
  have := List.pairwise_mergeSort (le := fun a b : Int × Int × Nat => decide (a.1 ≤ b.1)) (by simp; intros; omega) (by simp; intros; omega) d.allE
  exact this.imp (by simp)
theorem allR_perm (d : DbP) : d.allR.Perm d.allE := List.mergeSort_perm _ _
theorem allE_off {d : DbP} (h : d.Ok) (ha : Apart d.sets) : d.allE.Pairwise Off := entG_off (full_apart h ha) fun s hs => (full_NF h s hs).1
theorem allE_bd {d : DbP} (h : d.Ok) : ∀ x ∈ d.allE, 0 ≤ x.1 ∧ x.1 ≤ x.2.1 ∧ x.2.1 ≤ 1114111 ∧ x.2.2 < d.names.length := fun x hx => by
  obtain ⟨k, s, h1, h2, h3⟩ := mem_entG.1 hx
  have hs := full_NF h s (List.mem_of_getElem? h1)
  have := hs.2 _ h2; have := Nf_le hs.1 _ h2
  have hk := (List.getElem?_eq_some_iff.1 h1).1
  rw [full_len h] at hk
  simp only at *
  omega
theorem allR_unique {d : DbP} (h : d.Ok) (ha : Apart d.sets) {l : List (Int × Int × Nat)} (hp : l.Perm d.allE) (hr : RiseC l) : l = d.allR := by
  refine List.Perm.eq_of_pairwise (le := fun a b : Int × Int × Nat => a.1 ≤ b.1) (fun a b hal hbl h1 h2 => ?_) hr (allR_rise d) (hp.trans (allR_perm d).symm)
  have ha' := hp.mem_iff.1 hal
  have hb' := (allR_perm d).mem_iff.1 hbl
  have ba := allE_bd h a ha'; have bb := allE_bd h b hb'
  obtain ⟨i, hi, rfl⟩ := List.getElem_of_mem ha'
  obtain ⟨j, hj, rfl⟩ := List.getElem_of_mem hb'
  have hP := List.pairwise_iff_getElem.1 (allE_off h ha)
  rcases Nat.lt_trichotomy i j with hij | hij | hij
  · have := hP i j hi hj hij
    unfold Off at this; omega
  · subst hij; rfl
  · have := hP j i hj hi hij
    unfold Off at this; omega
theorem allE_eq (d : DbP) : d.allE = d.rest.map (fun x : Int × Int => (x.1, x.2, (0 : Nat))) ++ d.ents := rfl
/-- All ranges and the others behind them, in whatever order. -/
theorem all_perm (d : DbP) : (d.rng ++ d.rest.map fun x : Int × Int => (x.1, x.2, (0 : Nat))).Perm d.allE := by
  rw [allE_eq]
  exact ((rng_perm d).append_right _).trans List.perm_append_comm
theorem allR_bd {d : DbP} (h : d.Ok) : ∀ x ∈ d.allR, 0 ≤ x.1 ∧ x.1 ≤ x.2.1 ∧ x.2.1 ≤ 1114111 ∧ x.2.2 < d.names.length := fun x hx => allE_bd h x ((allR_perm d).mem_iff.1 hx)
theorem allR_next {d : DbP} (h : d.Ok) (ha : Apart d.sets) : d.allR.Pairwise fun a b => a.2.1 < b.1 := by
  have h1 : d.allR.Pairwise Off := (List.Perm.pairwise_iff off_symm (allR_perm d)).2 (allE_off h ha)
  have h2 := (allR_rise d).and h1
  exact h2.imp_of_mem fun {a b} hA hB hab => by
    have := allR_bd h a hA; have := allR_bd h b hB
    obtain ⟨h3, h4⟩ := hab
    unfold Off at h4; omega
/-- From a rune on without a gap to the last one. -/
def Tile : Int → List (Int × Int × Nat) → Prop
  | m, [] => m = 1114112
  | m, x :: r => x.1 = m ∧ m ≤ x.2.1 ∧ Tile (x.2.1 + 1) r
theorem tile_of : ∀ {l : List (Int × Int × Nat)} {m : Int}, (l.Pairwise fun a b => a.2.1 < b.1) → (∀ x ∈ l, m ≤ x.1 ∧ x.1 ≤ x.2.1 ∧ x.2.1 ≤ 1114111) → m ≤ 1114112 → (∀ r, m ≤ r → r ≤ 1114111 → ∃ x ∈ l, x.1 ≤ r ∧ r ≤ x.2.1) → Tile m l
  | [], m, _, _, hm, hc => by
    rcases Int.lt_or_le 1114111 m with h | h
    · show m = 1114112; omega
    · obtain ⟨x, hx, _⟩ := hc m (Int.le_refl _) h; simp at hx
  | x :: l, m, hp, hb, hm, hc => by
    rw [List.pairwise_cons] at hp
    have hx := hb x (by simp)
    have h1 : x.1 = m := by
      obtain ⟨y, hy, h2, h3⟩ := hc m (Int.le_refl _) (by omega)
      rcases List.mem_cons.1 hy with rfl | hy
      · omega
      · have := hp.1 y hy; omega
    refine ⟨h1, by omega, tile_of hp.2 (fun y hy => ?_) (by omega) fun r hr1 hr2 => ?_⟩
    · have := hp.1 y hy; have := hb y (by simp [hy]); omega
    · obtain ⟨y, hy, h2, h3⟩ := hc r (by omega) hr2
      rcases List.mem_cons.1 hy with rfl | hy
      · omega
      · exact ⟨y, hy, h2, h3⟩
theorem allR_tile {d : DbP} (h : d.Ok) (ha : Apart d.sets) : Tile 0 d.allR := by
  refine tile_of (allR_next h ha) (fun x hx => by have := allR_bd h x hx; omega) (by omega) fun r h0 h1 => ?_
  obtain ⟨s, hs, hr⟩ := full_all (d := d) r h0 h1
  obtain ⟨y, hy, h2, h3⟩ := (NF_mem (full_NF h s hs) r).1 hr
  obtain ⟨k, hk, rfl⟩ := List.getElem_of_mem hs
  exact ⟨(y.1, y.2, 0 + k), (allR_perm d).mem_iff.2 (mem_entG.2 ⟨k, _, List.getElem?_eq_getElem hk, hy, rfl⟩), h2, h3⟩
/-- The class of a range is that of each rune of it. -/
theorem allR_get {d : DbP} (h : d.Ok) (ha : Apart d.sets) {x : Int × Int × Nat} (hx : x ∈ d.allR) {r : Int} (h1 : x.1 ≤ r) (h2 : r ≤ x.2.1) : d.get r = x.2.2 := by
  have hb := allR_bd h x hx
  obtain ⟨k, s, h3, h4, h5⟩ := mem_entG.1 ((allR_perm d).mem_iff.1 hx)
  have := has_get h ha h3 (r := r) (by omega) (by omega)
  rw [(hasB_NF (full_NF h s (List.mem_of_getElem? h3)) r).2 ⟨_, h4, h1, h2⟩] at this
  have := of_decide_eq_true this.symm
  omega
/-- Where no range begins the class is as it was. -/
theorem get_same {d : DbP} (h : d.Ok) (ha : Apart d.sets) {p r : Int} (h0 : 0 ≤ p) (h1 : p ≤ r) (h2 : r ≤ 1114111) (hn : ∀ x ∈ d.allE, ¬ (p < x.1 ∧ x.1 ≤ r)) : d.get r = d.get p := by
  obtain ⟨s, hs, hr⟩ := full_all (d := d) r (by omega) h2
  obtain ⟨y, hy, h3, h4⟩ := (NF_mem (full_NF h s hs) r).1 hr
  obtain ⟨k, hk, rfl⟩ := List.getElem_of_mem hs
  have hm : (y.1, y.2, 0 + k) ∈ d.allE := mem_entG.2 ⟨k, _, List.getElem?_eq_getElem hk, hy, rfl⟩
  have hm' := (allR_perm d).mem_iff.2 hm
  have := hn _ hm
  simp only at this
  rw [allR_get h ha hm' (r := r) h3 h4, allR_get h ha hm' (r := p) (by simp only; omega) (by simp only; omega)]

/- Pairs by their least runes. -/
def ded1 (l : List (Nat × Nat)) (p : Nat × Nat) : List (Nat × Nat) := if p ∈ l then l else l ++ [p]
def dedN (G : Int → Nat × Nat) : Nat → List (Nat × Nat)
  | 0 => [(0, 0)]
  | n + 1 => ded1 (dedN G n) (G (n : Int))
theorem ded1_mem {l : List (Nat × Nat)} {p q : Nat × Nat} : q ∈ ded1 l p ↔ q ∈ l ∨ q = p := by
  unfold ded1
  split
  · rename_i h; exact ⟨.inl, fun h' => h'.elim id (fun e => e ▸ h)⟩
  · simp
theorem ded1_in {l : List (Nat × Nat)} {p : Nat × Nat} (h : p ∈ l) : ded1 l p = l := if_pos h
theorem mem_dedN {G : Int → Nat × Nat} {p : Nat × Nat} : ∀ {n : Nat}, p ∈ dedN G n ↔ p = (0, 0) ∨ ∃ j : Nat, j < n ∧ G (j : Int) = p
  | 0 => by simp [dedN]
  | n + 1 => by
    rw [dedN, ded1_mem, mem_dedN (n := n)]
    constructor
    · rintro ((h | ⟨j, h1, h2⟩) | h)
      · exact .inl h
      · exact .inr ⟨j, by omega, h2⟩
      · exact .inr ⟨n, by omega, h.symm⟩
    · rintro (h | ⟨j, h1, h2⟩)
      · exact .inl (.inl h)
      · rcases Nat.lt_or_ge j n with h | h
        · exact .inl (.inr ⟨j, h, h2⟩)
        · obtain rfl : j = n := by omega
          exact .inr h2.symm
theorem dedN_nodup {G : Int → Nat × Nat} : ∀ (n : Nat), (dedN G n).Nodup
  | 0 => by simp [dedN]
  | n + 1 => by
    rw [dedN]; unfold ded1
    split
    · exact dedN_nodup n
    · rename_i h
      rw [List.nodup_append]
      exact ⟨dedN_nodup n, by simp, fun a ha b hb e => by simp at hb; subst hb; subst e; exact h ha⟩
theorem dedN_head {G : Int → Nat × Nat} : ∀ (n : Nat), ∃ T, dedN G n = (0, 0) :: T
  | 0 => ⟨[], rfl⟩
  | n + 1 => by
    obtain ⟨T, h⟩ := dedN_head (G := G) n
    rw [dedN, h]; unfold ded1
    split
    · exact ⟨T, rfl⟩
    · exact ⟨T ++ [G n], rfl⟩
theorem dedN_same {G : Int → Nat × Nat} {m : Nat} : ∀ (n : Nat), m ≤ n → (∀ k : Nat, m ≤ k → k < n → ∃ j : Nat, j < m ∧ G (k : Int) = G (j : Int)) → dedN G n = dedN G m
  | 0, h, _ => by obtain rfl : m = 0 := by omega
                  rfl
  | n + 1, h, hk => by
    rcases Nat.lt_or_ge n m with hlt | hge
    · obtain rfl : m = n + 1 := by omega
      rfl
    · rw [dedN, dedN_same n hge (fun k h1 h2 => hk k h1 (by omega))]
      obtain ⟨j, hj, e⟩ := hk n hge (by omega)
      exact ded1_in (mem_dedN.2 (.inr ⟨j, hj, e.symm⟩))
/-- Over a stretch with one pair. -/
theorem dedN_span {G : Int → Nat × Nat} {m n : Nat} {p : Nat × Nat} (h : m < n) (hk : ∀ k : Nat, m ≤ k → k < n → G (k : Int) = p) : dedN G n = ded1 (dedN G m) p := by
  have h1 : dedN G n = dedN G (m + 1) := dedN_same n (by omega) fun k h1 h2 => ⟨m, by omega, by rw [hk k (by omega) h2, hk m (Nat.le_refl _) h]⟩
  rw [h1, dedN, hk m (Nat.le_refl _) h]
/-- The document's way: at every place where a range begins. -/
theorem ded_fold {G : Int → Nat × Nat} {B : Int → Prop} (hG : ∀ p r : Int, 0 ≤ p → p ≤ r → r ≤ 1114111 → (∀ s, B s → ¬ (p < s ∧ s ≤ r)) → G r = G p) :
    ∀ (L : List Int) (t : Int), 0 ≤ t → t ≤ 1114111 → (t :: L).Pairwise (· ≤ ·) → (∀ s ∈ L, s ≤ 1114111) → (∀ s, B s → t < s → s ∈ L) → (L.map G).foldl ded1 (dedN G (t.toNat + 1)) = dedN G 1114112
  | [], t, h0, h1, _, _, hB => by
    refine (dedN_same 1114112 (by omega) fun k hk1 hk2 => ⟨t.toNat, by omega, ?_⟩).symm
    rw [Int.toNat_of_nonneg h0]
    exact hG t k h0 (by omega) (by omega) fun s hs hh => by have := hB s hs hh.1; simp at this
  | u :: L, t, h0, h1, hp, hb, hB => by
    rw [List.map_cons, List.foldl_cons]
    rw [List.pairwise_cons] at hp
    have htu := hp.1 u (by simp)
    have hu := hb u (by simp)
    have key : ded1 (dedN G (t.toNat + 1)) (G u) = dedN G (u.toNat + 1) := by
      rcases Int.lt_or_le t u with hlt | hge
      · have e : dedN G u.toNat = dedN G (t.toNat + 1) := dedN_same u.toNat (by omega) fun k hk1 hk2 => ⟨t.toNat, by omega, by
          rw [Int.toNat_of_nonneg h0]
          refine hG t k h0 (by omega) (by omega) fun s hs hh => ?_
          rcases List.mem_cons.1 (hB s hs hh.1) with rfl | hm
          · omega
          · have := (List.pairwise_cons.1 hp.2).1 s hm; omega⟩
        rw [← e]
        conv => rhs; unfold dedN
        rw [Int.toNat_of_nonneg (by omega)]
      · obtain rfl : u = t := by omega
        exact ded1_in (mem_dedN.2 (.inr ⟨u.toNat, by omega, by rw [Int.toNat_of_nonneg h0]⟩))
    rw [key]
    refine ded_fold hG L u (by omega) hu hp.2 (fun s hs => hb s (by simp [hs])) fun s hs hh => ?_
    rcases List.mem_cons.1 (hB s hs (by omega)) with rfl | hm
    · omega
    · exact hm

def pairG (a b : DbP) (r : Int) : Nat × Nat := (a.get r, b.get r)
def twoP (a b : DbP) : List (Nat × Nat) := dedN (pairG a b) 1114112
def nmP (a b : DbP) (p : Nat × Nat) : List UInt8 := a.names.getD p.1 [] ++ 95 :: b.names.getD p.2 []
def setP (a b : DbP) (p : Nat × Nat) : List (Int × Int) := andR (a.full.getD p.1 []) (b.full.getD p.2 [])
/-- Runes parted as two databases do. -/
def crossP (a b : DbP) : Except Int DbP :=
  if 64 < (twoP a b).length then .error 6
  else if (twoP a b).tail.any fun p => decide (32 < (nmP a b p).length) then .error 40
  else if decide (((otherL :: (twoP a b).tail.map (nmP a b))).Nodup) = false then .error 8
  else .ok ⟨otherL :: (twoP a b).tail.map (nmP a b), [] :: (twoP a b).tail.map (setP a b)⟩
theorem get_lt {d : DbP} (h : d.Ok) (r : Int) : d.get r < d.names.length := by
  have h0 : 0 < d.names.length := by
    cases hn : d.names with
    | nil => have := h.head; rw [hn] at this; cases this
    | cons => simp
  unfold DbP.get
  rcases getGo_spec (r := askR r) (S := d.sets.tail) (i := 1) (by omega) with ⟨h1, _⟩ | ⟨k, s, h1, _, h3⟩
  · omega
  · have := (List.getElem?_eq_some_iff.1 h1).1
    rw [List.length_tail, h.len] at this; omega
theorem two_lt {a b : DbP} (ha : a.Ok) (hb : b.Ok) {p : Nat × Nat} (h : p ∈ twoP a b) : p.1 < a.names.length ∧ p.2 < b.names.length := by
  have h0 : ∀ {d : DbP}, d.Ok → 0 < d.names.length := fun {d} h => by have := get_lt h 0; omega
  rcases mem_dedN.1 h with rfl | ⟨j, _, rfl⟩
  · exact ⟨h0 ha, h0 hb⟩
  · exact ⟨get_lt ha _, get_lt hb _⟩
theorem full_at {d : DbP} (h : d.Ok) {i : Nat} (hi : i < d.names.length) : d.full[i]? = some (d.full.getD i []) := by
  rw [List.getD_eq_getElem?_getD, List.getElem?_eq_getElem (by rw [full_len h]; exact hi)]; rfl
/-- Whose runes a pair's set has. -/
theorem setP_mem {a b : DbP} (ha : a.Ok) (aa : Apart a.sets) (hb : b.Ok) (ab : Apart b.sets) {p : Nat × Nat} (h1 : p.1 < a.names.length) (h2 : p.2 < b.names.length) (r : Int) : hasP (setP a b p) r ↔ 0 ≤ r ∧ r ≤ 1114111 ∧ pairG a b r = p := by
  unfold setP
  rw [hasP_andR]
  have e1 := fun (h0 : 0 ≤ r) (hm : r ≤ 1114111) => has_get ha aa (full_at ha h1) h0 hm
  have e2 := fun (h0 : 0 ≤ r) (hm : r ≤ 1114111) => has_get hb ab (full_at hb h2) h0 hm
  constructor
  · rintro ⟨k1, k2⟩
    obtain ⟨h0, hm⟩ := hasP_range k1
    refine ⟨h0, hm, Prod.ext ?_ ?_⟩
    · have := e1 h0 hm; rw [hasB_true k1] at this; exact of_decide_eq_true this.symm
    · have := e2 h0 hm; rw [hasB_true k2] at this; exact of_decide_eq_true this.symm
  · rintro ⟨h0, hm, rfl⟩
    exact ⟨(hasB_iff _ _).1 (by rw [e1 h0 hm]; simp [pairG]), (hasB_iff _ _).1 (by rw [e2 h0 hm]; simp [pairG])⟩
/-- The program's segments make the same set. -/
theorem setP_of {a b : DbP} (ha : a.Ok) (aa : Apart a.sets) (hb : b.Ok) (ab : Apart b.sets) {p : Nat × Nat} (h1 : p.1 < a.names.length) (h2 : p.2 < b.names.length) {l : List (Int × Int)} (hl : ∀ r, 0 ≤ r → r ≤ 1114111 → (memR l r ↔ pairG a b r = p)) : normR l = setP a b p :=
  NF_ext (normR_NF l) (andR_NF _ _) fun r => by
    rw [hasP_normR, setP_mem ha aa hb ab h1 h2]
    exact ⟨fun ⟨h0, hm, h⟩ => ⟨h0, hm, (hl r h0 hm).1 h⟩, fun ⟨h0, hm, h⟩ => ⟨h0, hm, (hl r h0 hm).2 h⟩⟩
end Go.Proofs.YtejccafolfeabaaGreatDoor

/-
  PLAIN: what stands in a crossed database; how many ranges a database has. No walk.
-/
namespace Go.Proofs.YtejccafolfeabaaGreatDoor

theorem askR_idem (r : Int) : askR (askR r) = askR r := by
  have := askR_bd r
  show (if askR r < 0 ∨ 1114111 < askR r then 65533 else askR r) = askR r
  rw [if_neg (by omega)]
theorem get_ask (d : DbP) (r : Int) : d.get (askR r) = d.get r := by unfold DbP.get; rw [askR_idem]
theorem pairG_ask (a b : DbP) (r : Int) : pairG a b (askR r) = pairG a b r := by unfold pairG; rw [get_ask, get_ask]
theorem pairG_two (a b : DbP) (r : Int) : pairG a b r ∈ twoP a b := by
  have hb := askR_bd r
  refine mem_dedN.2 (.inr ⟨(askR r).toNat, by omega, ?_⟩)
  rw [Int.toNat_of_nonneg hb.1, pairG_ask]
theorem twoP_nodup (a b : DbP) : (twoP a b).Nodup := by unfold twoP; exact dedN_nodup _
theorem two_split (a b : DbP) : twoP a b = (0, 0) :: (twoP a b).tail := by
  obtain ⟨T, h⟩ := dedN_head (G := pairG a b) 1114112
  unfold twoP; rw [h]; rfl
theorem name_of {n : List UInt8} {x : UInt8} {r : List UInt8} (h : n = x :: r) (h1 : letB x = true) (h2 : ∀ c ∈ r, partB c = true) (h3 : n.length ≤ 32) : nameL n = true := by
  subst h
  simp only [nameL, Bool.and_eq_true, decide_eq_true_eq, List.all_eq_true]
  exact ⟨⟨h1, h2⟩, by simp only [List.length_cons] at h3; omega⟩
theorem nmP_name {a b : DbP} {p : Nat × Nat} (ha : a.Named) (hb : b.Named) (h1 : p.1 < a.names.length) (h2 : p.2 < b.names.length) (hl : (nmP a b p).length ≤ 32) : nameL (nmP a b p) = true := by
  have ea : a.names.getD p.1 [] ∈ a.names := by rw [List.getD_eq_getElem?_getD, List.getElem?_eq_getElem h1]; exact List.getElem_mem h1
  have eb : b.names.getD p.2 [] ∈ b.names := by rw [List.getD_eq_getElem?_getD, List.getElem?_eq_getElem h2]; exact List.getElem_mem h2
  have na := ha _ ea; have nb := hb _ eb
  have pa := (name_part na).2.2; have pb := (name_part nb).2.2
  cases hx : a.names.getD p.1 [] with
  | nil => rw [hx] at na; cases na
  | cons x r =>
    rw [hx] at na pa
    have hx1 : letB x = true := by simp only [nameL, Bool.and_eq_true] at na; exact na.1.1
    refine name_of (x := x) (r := r ++ 95 :: b.names.getD p.2 []) (by unfold nmP; rw [hx]; rfl) hx1 (fun c hc => ?_) hl
    rcases List.mem_append.1 hc with hc | hc
    · exact pa c (by simp [hc])
    · rcases List.mem_cons.1 hc with rfl | hc
      · decide
      · exact pb c hc
structure CrossOk (a b d : DbP) : Prop where
  names : d.names = otherL :: (twoP a b).tail.map (nmP a b)
  sets : d.sets = [] :: (twoP a b).tail.map (setP a b)
  few : (twoP a b).length ≤ 64
  short : ∀ p ∈ (twoP a b).tail, (nmP a b p).length ≤ 32
  nodup : d.names.Nodup
theorem crossP_is {a b d : DbP} (h : crossP a b = .ok d) : CrossOk a b d := by
  unfold crossP at h
  split at h
  · cases h
  · rename_i h64
    split at h
    · cases h
    · rename_i hs
      split at h
      · cases h
      · rename_i hn
        injection h with h; subst h
        refine ⟨rfl, rfl, by omega, fun p hp => ?_, by simpa using hn⟩
        have := hs
        simp only [List.any_eq_true, decide_eq_true_eq, not_exists, not_and] at this
        have := this p hp; omega
theorem ok_of {T : List (Nat × Nat)} {f : Nat × Nat → List UInt8} {g : Nat × Nat → List (Int × Int)} {d : DbP} (h1 : d.names = otherL :: T.map f) (h2 : d.sets = [] :: T.map g) (h3 : T.length + 1 ≤ 64) (h5 : d.names.Nodup) (hg : ∀ p, NF (g p)) : d.Ok := by
  refine ⟨by rw [h1, h2]; simp, fun l hl => ?_, h5, by rw [h1]; rfl, by rw [h2]; rfl, by rw [h1]; simpa using h3⟩
  rw [h2] at hl
  rcases List.mem_cons.1 hl with rfl | hl
  · exact NF_nil
  · obtain ⟨p, _, rfl⟩ := List.mem_map.1 hl; exact hg p
theorem len_two {T : List (Nat × Nat)} {x : Nat × Nat} (h : T = x :: T.tail) (h3 : T.length ≤ 64) : T.tail.length + 1 ≤ 64 := by
  rw [h] at h3; simpa using h3
theorem cross_ok {a b d : DbP} (hd : CrossOk a b d) : d.Ok :=
  ok_of hd.names hd.sets (len_two (two_split a b) hd.few) hd.nodup fun _ => andR_NF _ _
theorem cross_named {a b d : DbP} (oa : a.Ok) (ob : b.Ok) (na : a.Named) (nb : b.Named) (hd : CrossOk a b d) : d.Named := by
  obtain ⟨h1, h2, h3, h4, h5⟩ := hd
  intro n hn
  rw [h1] at hn
  rcases List.mem_cons.1 hn with rfl | hn
  · decide
  · obtain ⟨p, hp, rfl⟩ := List.mem_map.1 hn
    have := two_lt oa ob (List.mem_of_mem_tail hp)
    exact nmP_name na nb this.1 this.2 (h4 p hp)
theorem tail_nodup {T : List (Nat × Nat)} (h : T.Nodup) : T.tail.Nodup := List.Nodup.sublist (List.tail_sublist _) h
theorem apart_map {T : List (Nat × Nat)} {g : Nat × Nat → List (Int × Int)} {G : Int → Nat × Nat} (hn : T.Nodup) (hg : ∀ p ∈ T, ∀ r, memR (g p) r → G r = p) : Apart ([] :: T.map g) := by
  intro i j s t hi hj hij r hs ht
  cases i with
  | zero => simp at hi; subst hi; exact memR_nil r hs
  | succ i =>
    cases j with
    | zero => simp at hj; subst hj; exact memR_nil r ht
    | succ j =>
      rw [List.getElem?_cons_succ, List.getElem?_map] at hi hj
      obtain ⟨p, hp, rfl⟩ := Option.map_eq_some_iff.1 hi
      obtain ⟨q, hq, rfl⟩ := Option.map_eq_some_iff.1 hj
      have e1 := hg p (List.mem_of_getElem? hp) r hs
      have e2 := hg q (List.mem_of_getElem? hq) r ht
      have e : p = q := e1.symm.trans e2
      subst e
      have := (List.getElem?_inj (List.getElem?_eq_some_iff.1 hp).1 hn).1 (hp.trans hq.symm)
      omega
theorem cross_apart {a b d : DbP} (oa : a.Ok) (aa : Apart a.sets) (ob : b.Ok) (ab : Apart b.sets) (hd : CrossOk a b d) : Apart d.sets := by
  rw [hd.sets]
  refine apart_map (G := pairG a b) (tail_nodup (twoP_nodup a b)) fun p hp r hr => ?_
  have lp := two_lt oa ob (List.mem_of_mem_tail hp)
  exact ((setP_mem oa aa ob ab lp.1 lp.2 r).1 ((NF_mem (andR_NF _ _) r).2 hr)).2.2
/-- The class of a rune there is the number of its pair. -/
theorem cross_get {a b d : DbP} (oa : a.Ok) (aa : Apart a.sets) (ob : b.Ok) (ab : Apart b.sets) (hd : CrossOk a b d) (r : Int) : (twoP a b)[d.get r]? = some (pairG a b r) := by
  have h2 := hd.sets
  have hr := askR_bd r
  have hmem := pairG_two a b r
  rw [two_split]
  rw [two_split] at hmem
  unfold DbP.get
  rw [h2, List.tail_cons]
  rcases getGo_spec (r := askR r) (S := (twoP a b).tail.map (setP a b)) (i := 1) (by omega) with ⟨k1, k2⟩ | ⟨k, s, k1, k2, k3⟩
  · rw [k1]
    rcases List.mem_cons.1 hmem with h | h
    · rw [h]; rfl
    · exfalso
      have lp := two_lt oa ob (List.mem_of_mem_tail h)
      have := k2 _ (List.mem_map.2 ⟨_, h, rfl⟩)
      rw [hasB_true ((setP_mem oa aa ob ab lp.1 lp.2 (askR r)).2 ⟨hr.1, hr.2, pairG_ask a b r⟩)] at this
      cases this
  · rw [k3]
    rw [List.getElem?_map] at k1
    obtain ⟨p, hp, rfl⟩ := Option.map_eq_some_iff.1 k1
    have lp := two_lt oa ob (List.mem_of_mem_tail (List.mem_of_getElem? hp))
    have := ((setP_mem oa aa ob ab lp.1 lp.2 (askR r)).1 ((hasB_iff _ _).1 k2)).2.2
    rw [pairG_ask] at this
    rw [Nat.add_comm, List.getElem?_cons_succ, hp, this]
/-- Two runes have one class of it just if they have one of both. -/
theorem cross_law {a b d : DbP} (oa : a.Ok) (aa : Apart a.sets) (ob : b.Ok) (ab : Apart b.sets) (hd : CrossOk a b d) (p q : Int) : d.get p = d.get q ↔ a.get p = a.get q ∧ b.get p = b.get q := by
  have hp := cross_get oa aa ob ab hd p
  have hq := cross_get oa aa ob ab hd q
  constructor
  · intro e
    rw [e, hq] at hp
    injection hp with hp
    injection hp with h1 h2
    exact ⟨h1.symm, h2.symm⟩
  · rintro ⟨h1, h2⟩
    have : pairG a b p = pairG a b q := Prod.ext h1 h2
    exact (List.getElem?_inj (List.getElem?_eq_some_iff.1 hp).1 (twoP_nodup a b)).1 (by rw [hp, hq, this])

/- How many ranges. -/
theorem next_len : ∀ {l : List (Int × Int × Nat)} {m : Int}, (l.Pairwise fun a b => a.2.1 < b.1) → (∀ x ∈ l, m ≤ x.1 ∧ x.1 ≤ x.2.1 ∧ x.2.1 ≤ 1114111) → m ≤ 1114112 → (l.length : Int) + m ≤ 1114112
  | [], m, _, _, hm => by simpa using hm
  | x :: l, m, hp, hb, hm => by
    rw [List.pairwise_cons] at hp
    have hx := hb x (by simp)
    have := next_len (l := l) (m := x.2.1 + 1) hp.2 (fun y hy => by have := hp.1 y hy; have := hb y (by simp [hy]); omega) (by omega)
    simp only [List.length_cons]; omega
theorem entG_len : ∀ (S : List (List (Int × Int))) (c : Nat), (entG c S).length = lenS S
  | [], _ => rfl
  | s :: S, c => by rw [entG, List.length_append, List.length_map, entG_len S (c + 1), lenS]
theorem lenS_flat : ∀ (S : List (List (Int × Int))), S.flatten.length = lenS S
  | [] => rfl
  | s :: S => by rw [List.flatten_cons, List.length_append, lenS_flat S, lenS]
theorem allR_len {d : DbP} (h : d.Ok) (ha : Apart d.sets) : d.allR.length ≤ 1114112 := by
  have := next_len (m := 0) (allR_next h ha) (fun x hx => by have := allR_bd h x hx; omega) (by omega)
  omega
theorem full_lenS {d : DbP} (h : d.Ok) (ha : Apart d.sets) : lenS d.full ≤ 1114112 := by
  have := allR_len h ha
  rw [(allR_perm d).length_eq, DbP.allE, entG_len] at this; exact this
theorem rng_len {d : DbP} (h : d.Ok) (ha : Apart d.sets) : d.rng.length ≤ 1114112 ∧ d.rng.length = lenS d.sets.tail := by
  have h1 := full_lenS h ha
  have h2 : d.rng.length = lenS d.sets.tail := by rw [(rng_perm d).length_eq, DbP.ents, entG_len]
  unfold DbP.full at h1
  rw [lenS] at h1
  omega
end Go.Proofs.YtejccafolfeabaaGreatDoor

/-
  WORDS FOR MEMORY, props: a database as it is made (its own blocks, one foreign block beside) and as it is read; the map of names. No program's walk.
-/
namespace Go.Proofs.YtejccafolfeabaaGreatDoor
open Go.RowKit Go.Maps

def encNm (n : List UInt8) : List Value := [.string (bytesOf n)]
def encSl (x : Option Addr × Nat × Nat) : List Value := [.slice x.1 x.2.1 x.2.2]
def encD (x : Int × Int × Nat) : List Value := [.int .i32 x.1, .int .i32 x.2.1, .int .i64 (x.2.2 : Int)]
theorem encNm_ok (l : List (List UInt8)) : ∀ y ∈ l.map encNm, y.length = 1 ∧ ∀ u ∈ y, u.oneCell' = true := by
  intro y hy; obtain ⟨r, _, rfl⟩ := List.mem_map.1 hy
  exact ⟨rfl, by simp [encNm, Value.oneCell']⟩
theorem encSl_ok (l : List (Option Addr × Nat × Nat)) : ∀ y ∈ l.map encSl, y.length = 1 ∧ ∀ u ∈ y, u.oneCell' = true := by
  intro y hy; obtain ⟨r, _, rfl⟩ := List.mem_map.1 hy
  exact ⟨rfl, by simp [encSl, Value.oneCell']⟩
theorem encD_ok (l : List (Int × Int × Nat)) : ∀ y ∈ l.map encD, y.length = 3 ∧ ∀ u ∈ y, u.oneCell' = true := by
  intro y hy; obtain ⟨r, _, rfl⟩ := List.mem_map.1 hy
  exact ⟨rfl, by simp [encD, Value.oneCell']⟩

/-- The map's datum holds just these names, each with its place (where none stands twice). -/
def MapIs (D : DataW Unit) (l : List (List UInt8)) : Prop :=
  IsMap D ∧ (∀ n, Maps.has D (.string n) = decide (n ∈ l)) ∧ ∀ (n : List UInt8) (i : Nat), l[i]? = some n → l.Nodup → ∀ z, D.atKey (.string n) z = .lit (.int .i64 (i : Int))
theorem MapIs.nil_ : MapIs (.map []) [] := ⟨isMap_empty, fun n => by simp [Maps.has_eq], fun n i h => by simp at h⟩
theorem MapIs.put {D : DataW Unit} {l : List (List UInt8)} (h : MapIs D l) (n : List UInt8) {k : Int} (hk : k = l.length) : MapIs (D.put (.string n) (.lit (.int .i64 k))) (l ++ [n]) := by
  subst hk
  refine ⟨h.1.put _ _, fun m => ?_, fun m i hi hnd z => ?_⟩
  · by_cases e : m = n
    · subst e; rw [has_put_same (k := .string m) h.1 (by trivial)]; simp
    · rw [has_put_other (by simpa using e), h.2.1]; simp [e]
  · have hnd2 := List.nodup_append.1 hnd
    by_cases e : m = n
    · subst e
      rw [atKey_put_same (k := .string m) h.1 (by trivial)]
      have hi2 := (List.getElem?_eq_some_iff.1 hi).1
      rcases Nat.lt_or_ge i l.length with hlt | hge
      · rw [List.getElem?_append_left hlt] at hi
        exact absurd rfl (hnd2.2.2 m (List.mem_of_getElem? hi) m (by simp))
      · simp at hi2
        rw [show i = l.length by omega]
    · rw [atKey_put_other (by simpa using e)]
      refine h.2.2 m i ?_ hnd2.1 z
      rcases Nat.lt_or_ge i l.length with hlt | hge
      · rwa [List.getElem?_append_left hlt] at hi
      · rw [List.getElem?_append_right hge] at hi
        cases hq : i - l.length with
        | zero => rw [hq] at hi; simp at hi; exact absurd hi.symm e
        | succ q => rw [hq] at hi; simp at hi
/-- What a look-up of a name gives. -/
theorem MapIs.look {D : DataW Unit} {l : List (List UInt8)} (h : MapIs D l) (hn : l.Nodup) (n : List UInt8) : D.atKey (.string n) (.lit (.int .i64 0)) = .lit (.int .i64 (((l.idxOf? n).getD 0 : Nat) : Int)) ∧ Maps.has D (.string n) = (l.idxOf? n).isSome := by
  cases hq : l.idxOf? n with
  | none =>
    have := idxOf?_none hq
    have h2 : Maps.has D (.string n) = false := by rw [h.2.1]; simpa using this
    exact ⟨by rw [atKey_of_not_has h2]; rfl, by rw [h2]; rfl⟩
  | some i =>
    have := idxOf?_some hq
    exact ⟨h.2.2 n i this hn _, by rw [h.2.1]; simpa using List.mem_of_getElem? this⟩

/-- Two rows of different types lie in different blocks. -/
theorem Own.apart {w : World} {b1 b2 : Nat} {e1 e2 : TypeId} {s1 s2 : Nat} {A1 A2 : Option Addr} {n1 c1 n2 c2 : Nat} {x1 x2 : List (List Value)} (h : Own w b1 e1 s1 A1 n1 c1 x1) (k : Own w b2 e2 s2 A2 n2 c2 x2) (hne : e1 ≠ e2) :
    ∀ a b, A1 = some a → A2 = some b → a.block ≠ b.block := by
  intro a b ha hb e
  rcases h.2.2.2 with ⟨h0, _⟩ | ⟨g1, cap1, cur1, hv1, _, hh1, _⟩
  · injection h0 with h0; rw [h0] at ha; cases ha
  · rcases k.2.2.2 with ⟨k0, _⟩ | ⟨g2, cap2, cur2, hv2, _, hh2, _⟩
    · injection k0 with k0; rw [k0] at hb; cases hb
    · injection hv1 with hv1; injection hv2 with hv2
      subst ha; subst hb
      injection hv1 with hv1; injection hv2 with hv2
      subst hv1; subst hv2
      simp only at e
      subst e
      rw [hh1] at hh2
      injection hh2 with hh2; injection hh2 with _ h3 _
      exact hne h3
theorem Own.off {w : World} {b1 : Nat} {e1 t : TypeId} {s1 : Nat} {A1 : Option Addr} {n1 c1 g : Nat} {x1 : List (List Value)} {cs : Array Value} (h : Own w b1 e1 s1 A1 n1 c1 x1) (k : Blk w g t cs) (hne : e1 ≠ t) :
    ∀ a, A1 = some a → a.block ≠ g := by
  intro a ha e
  rcases h.2.2.2 with ⟨h0, _⟩ | ⟨g1, cap1, cur1, hv1, _, hh1, _⟩
  · injection h0 with h0; rw [h0] at ha; cases ha
  · injection hv1 with hv1
    subst ha; injection hv1 with hv1; subst hv1
    simp only at e; subst e
    unfold Blk at k
    rw [hh1] at k
    injection k with k; injection k with _ h3 _
    exact hne h3
theorem Own.offMap {w : World} {b1 : Nat} {e1 : TypeId} {s1 : Nat} {A1 : Option Addr} {n1 c1 b n : Nat} {x1 : List (List Value)} {P : Program} {k : TypeId} {R : Value → Option (DataW Unit × List MemPlace)} {D : DataW Unit} (h : Own w b1 e1 s1 A1 n1 c1 x1) (m : w.ownsMap P k R b n D) :
    ∀ a, A1 = some a → a.block ≠ b := by
  intro a ha e
  obtain ⟨es, clock, hb, _⟩ := m
  rcases h.2.2.2 with ⟨h0, _⟩ | ⟨g1, cap1, cur1, hv1, _, hh1, _⟩
  · injection h0 with h0; rw [h0] at ha; cases ha
  · injection hv1 with hv1
    subst ha; injection hv1 with hv1; subst hv1
    simp only at e; subst e
    rw [hh1] at hb
    cases hb
theorem Blk.offMap {w : World} {g b n : Nat} {t : TypeId} {cs : Array Value} {P : Program} {k : TypeId} {R : Value → Option (DataW Unit × List MemPlace)} {D : DataW Unit} (h : Blk w g t cs) (m : w.ownsMap P k R b n D) : g ≠ b := by
  intro e; obtain ⟨es, clock, hb, _⟩ := m; subst e; unfold Blk at h; rw [hb] at h; cases h

/-- The rows that a row of slices leads to. -/
structure Sets (w : World) (base : Nat) (xs : List (Option Addr × Nat × Nat)) (S : List (List (Int × Int))) : Prop where
  len : xs.length = S.length
  own : ∀ (k : Nat) (x : Option Addr × Nat × Nat) (l : List (Int × Int)), xs[k]? = some x → S[k]? = some l → Own w base 80 2 x.1 x.2.1 x.2.2 (l.map encR)
theorem Sets.keep {w w' : World} {base : Nat} {xs : List (Option Addr × Nat × Nat)} {S : List (List (Int × Int))} (h : Sets w base xs S) (hk : ∀ (g : Nat) (cs : Array Value), base ≤ g → w.heap[g]? = some (.cells cs 80 (0, 0)) → w'.heap[g]? = w.heap[g]?) : Sets w' base xs S :=
  ⟨h.len, fun k x l hx hl => by
    have ho := h.own k x l hx hl
    refine ho.keep fun a ha => ?_
    rcases ho.2.2.2 with ⟨h0, _⟩ | ⟨g1, cap1, cur1, hv1, hg, hh1, _⟩
    · injection h0 with h0; rw [h0] at ha; cases ha
    · injection hv1 with hv1; rw [hv1] at ha; injection ha with ha; subst ha
      exact hk g1 cur1 hg hh1⟩
theorem Sets.below {w w' : World} {base : Nat} {xs : List (Option Addr × Nat × Nat)} {S : List (List (Int × Int))} (h : Sets w base xs S) (hb : Below w.heap.size w w') : Sets w' base xs S :=
  h.keep fun g _ _ hg => hb.block g (Array.getElem?_eq_some_iff.1 hg).1
theorem Sets.grown {w w' : World} {base : Nat} {xs : List (Option Addr × Nat × Nat)} {S : List (List (Int × Int))} {row : Option Nat} (h : Sets w base xs S) (hg : w.grownBy w' row) (hr : ∀ g (q : Array Value), row = some g → w.heap[g]? ≠ some (.cells q 80 (0, 0))) : Sets w' base xs S :=
  h.keep fun g cs _ hh => hg.block g (Array.getElem?_eq_some_iff.1 hh).1 fun e => hr g cs e.symm hh
theorem Sets.more {w : World} {b b' : Nat} {xs : List (Option Addr × Nat × Nat)} {S : List (List (Int × Int))} (h : Sets w b xs S) (hb : b' ≤ b) : Sets w b' xs S := ⟨h.len, fun k x l hx hl => (h.own k x l hx hl).more hb⟩
theorem Sets.snoc {w : World} {base : Nat} {xs : List (Option Addr × Nat × Nat)} {S : List (List (Int × Int))} {A : Option Addr} {n c : Nat} {l : List (Int × Int)} (h : Sets w base xs S) (ho : Own w base 80 2 A n c (l.map encR)) : Sets w base (xs ++ [(A, n, c)]) (S ++ [l]) := by
  refine ⟨by simp [h.len], fun k x q hx hq => ?_⟩
  rcases Nat.lt_or_ge k xs.length with hlt | hge
  · rw [List.getElem?_append_left hlt] at hx
    rw [List.getElem?_append_left (by rw [← h.len]; exact hlt)] at hq
    exact h.own k x q hx hq
  · rw [List.getElem?_append_right hge] at hx
    rw [List.getElem?_append_right (by rw [← h.len]; exact hge), ← h.len] at hq
    cases hz : k - xs.length with
    | zero => rw [hz] at hx hq; simp at hx hq; subst hx; subst hq; exact ho
    | succ z => rw [hz] at hx; simp at hx
theorem Sets.set_ {w : World} {base : Nat} {xs : List (Option Addr × Nat × Nat)} {S : List (List (Int × Int))} {A : Option Addr} {n c i : Nat} {l : List (Int × Int)} (h : Sets w base xs S) (ho : Own w base 80 2 A n c (l.map encR)) : Sets w base (xs.set i (A, n, c)) (S.set i l) := by
  refine ⟨by simp [h.len], fun k x q hx hq => ?_⟩
  by_cases e : i = k
  · subst e
    rw [List.getElem?_set_self' ] at hx hq
    cases h1 : xs[i]? with
    | none => rw [h1] at hx; simp at hx
    | some y =>
      rw [h1] at hx; simp at hx; subst hx
      cases h2 : S[i]? with
      | none => rw [h2] at hq; simp at hq
      | some z => rw [h2] at hq; simp at hq; subst hq; exact ho
  · rw [List.getElem?_set_ne e] at hx hq
    exact h.own k x q hx hq

theorem keyedS : Keyed Tryz.prog 9 := string_keyed Tryz.underlying9
theorem zeroI (w : World) : (zeroValue 3).run Tryz.prog w = .ok (.int .i64 0) w := by kernel_rfl
theorem keyS {n : List UInt8} (h : n.length ≤ 1000000) : keyOf Tryz.prog 9 (.string (bytesOf n)) = some (.string n) := by
  rw [WideMaps.keyOf_string_mk Tryz.underlying9 (by rw [bytesOf_size]; unfold maxLen; omega), bytesOf_list]

/-- A database that is being made, its parts: p its block; x a foreign block that stays; N its names, S its sets. -/
structure DbX (w : World) (base p x : Nat) (An : Option Addr) (nn cn bm nm : Nat) (D : DataW Unit) (As : Option Addr) (ns cs : Nat) (xs : List (Option Addr × Nat × Nat)) (N : List (List UInt8)) (S : List (List (Int × Int))) : Prop where
  blk : Blk w p 70 #[.slice An nn cn, .map (some bm), .slice As ns cs, .slice none 0 0]
  pb : base ≤ p
  hn : Own w base 9 1 An nn cn (N.map encNm)
  hm : w.ownsMap Tryz.prog 9 (plainElem (H := Unit) Tryz.prog 3) bm nm D
  nle : nm ≤ nn
  bb : base ≤ bm
  hD : MapIs D N
  hs : Own w base 37 1 As ns cs (xs.map encSl)
  hx : Sets w base xs S
  xp : x ≠ p
  xb : x ≠ bm
  xn : ∀ a, An = some a → a.block ≠ x
  xs_ : ∀ a, As = some a → a.block ≠ x
structure DbB (w : World) (base p x : Nat) (d : DbP) : Prop where
  ex : ∃ (An : Option Addr) (nn cn bm nm : Nat) (D : DataW Unit) (As : Option Addr) (ns cs : Nat) (xs : List (Option Addr × Nat × Nat)), DbX w base p x An nn cn bm nm D As ns cs xs d.names d.sets
/-- A database as it is read. -/
structure DbAt (w : World) (p : Nat) (d : DbP) : Prop where
  ex : ∃ (An : Option Addr) (nn cn bm nm : Nat) (D : DataW Unit) (As : Option Addr) (ns cs : Nat) (xs : List (Option Addr × Nat × Nat)) (Ar : Option Addr) (nr cr : Nat),
    Blk w p 70 #[.slice An nn cn, .map (some bm), .slice As ns cs, .slice Ar nr cr] ∧ Own w 0 9 1 An nn cn (d.names.map encNm) ∧
    w.ownsMap Tryz.prog 9 (plainElem (H := Unit) Tryz.prog 3) bm nm D ∧ MapIs D d.names ∧ Own w 0 37 1 As ns cs (xs.map encSl) ∧ Sets w 0 xs d.full ∧ Own w 0 82 3 Ar nr cr (d.rng.map encD)
theorem map_below {w w' : World} {P : Program} {k : TypeId} {R : Value → Option (DataW Unit × List MemPlace)} {b n : Nat} {D : DataW Unit} (h : w.ownsMap P k R b n D) (hb : Below w.heap.size w w') : w'.ownsMap P k R b n D := by
  have hlt := h.lt
  obtain ⟨es, clock, h1, h2⟩ := h
  exact ⟨es, clock, (hb.block b hlt).trans h1, h2⟩
theorem DbAt.below {w w' : World} {p : Nat} {d : DbP} (h : DbAt w p d) (hb : Below w.heap.size w w') : DbAt w' p d := by
  obtain ⟨An, nn, cn, bm, nm, D, As, ns, cs, xs, Ar, nr, cr, h1, h2, h3, h4, h5, h6, h7⟩ := h.ex
  exact ⟨An, nn, cn, bm, nm, D, As, ns, cs, xs, Ar, nr, cr, h1.below hb, h2.below hb, map_below h3 hb, h4, h5.below hb, h6.below hb, h7.below hb⟩
theorem DbAt.drewN {w : World} {p : Nat} {d : DbP} (h : DbAt w p d) (q : Nat) : DbAt (w.drewN q) p d := h.below (below_refl_drewN w q)
section
variable {w w' : World} {base p x : Nat} {An : Option Addr} {nn cn bm nm : Nat} {D : DataW Unit} {As : Option Addr} {ns cs : Nat} {xs : List (Option Addr × Nat × Nat)} {N : List (List UInt8)} {S : List (List (Int × Int))}
theorem DbX.below (h : DbX w base p x An nn cn bm nm D As ns cs xs N S) (hb : Below w.heap.size w w') : DbX w' base p x An nn cn bm nm D As ns cs xs N S :=
  ⟨h.blk.below hb, h.pb, h.hn.below hb, map_below h.hm hb, h.nle, h.bb, h.hD, h.hs.below hb, h.hx.below hb, h.xp, h.xb, h.xn, h.xs_⟩
/-- What a step keeps: all below base, and block x. -/
def KX (base x : Nat) (w w' : World) : Prop := Below base w w' ∧ (x < w.heap.size → w'.heap[x]? = w.heap[x]?)
theorem KX.refl (base x : Nat) (w : World) : KX base x w w := ⟨Below.refl _ _, fun _ => rfl⟩
theorem KX.trans {a b c : World} (h : KX base x a b) (k : KX base x b c) : KX base x a c := ⟨h.1.trans k.1, fun hx => (k.2 (Nat.lt_of_lt_of_le hx h.1.size)).trans (h.2 hx)⟩
theorem KX.below (hb : Below w.heap.size w w') (hB : base ≤ w.heap.size) : KX base x w w' := ⟨hb.mono hB, fun hx => hb.block x hx⟩
theorem KX.grown {row : Option Nat} (hg : w.grownBy w' row) (hB : base ≤ w.heap.size) (hr : ∀ k, row = some k → base ≤ k ∧ k ≠ x) : KX base x w w' :=
  ⟨(Below.refl _ _).grown hg hB fun k hk => (hr k hk).1, fun hx => hg.block x hx fun e => (hr x e.symm).2 rfl⟩
theorem KX.setCell (w : World) {q : Addr} (hq : base ≤ q.block) (hx : q.block ≠ x) (u : Value) : KX base x w (w.setCell q u) :=
  ⟨(Below.refl _ _).setCell hq u, fun _ => Below.heap_setCell w q u x (Ne.symm hx)⟩
theorem blk_not_R {g : Nat} {t : TypeId} {cur : Array Value} (h : Blk w g t cur) (ht : t ≠ 80) : ∀ q : Array Value, w.heap[g]? ≠ some (.cells q 80 (0, 0)) := fun q e => by
  unfold Blk at h; rw [h] at e; injection e with e; injection e with _ e _; exact ht e
theorem own_not_R {b1 : Nat} {e1 : TypeId} {s1 : Nat} {A1 : Option Addr} {n1 c1 : Nat} {x1 : List (List Value)} (h : Own w b1 e1 s1 A1 n1 c1 x1) (ht : e1 ≠ 80) : ∀ g (q : Array Value), A1.map (·.block) = some g → w.heap[g]? ≠ some (.cells q 80 (0, 0)) := fun g q hg e => by
  rcases h.2.2.2 with ⟨h0, _⟩ | ⟨g1, cap1, cur1, hv1, _, hh1, _⟩
  · injection h0 with h0; rw [h0] at hg; cases hg
  · injection hv1 with hv1; subst hv1
    simp at hg; subst hg
    rw [hh1] at e; injection e with e; injection e with _ e _; exact ht e
theorem map_not_R {P : Program} {k : TypeId} {R : Value → Option (DataW Unit × List MemPlace)} {b n : Nat} (m : w.ownsMap P k R b n D) : ∀ q : Array Value, w.heap[b]? ≠ some (.cells q 80 (0, 0)) := fun q e => by
  obtain ⟨es, clock, hb, _⟩ := m; rw [hb] at e; cases e
theorem grown_alloc {a b : World} {row : Option Nat} {o : Obj} (h : (a.alloc o).grownBy b row) : a.grownBy b row :=
  ⟨h.os, h.tape, h.output, Nat.le_trans (by simp) h.size, fun i hi hne => (h.block i (by simp; omega) hne).trans (Below.heap_alloc a o i hi)⟩
theorem map_kept {P : Program} {k : TypeId} {R : Value → Option (DataW Unit × List MemPlace)} {b n : Nat} {row : Option Nat} (m : w.ownsMap P k R b n D) (hg : w.grownBy w' row) (hr : some b ≠ row) : w'.ownsMap P k R b n D := m.kept hg hr
theorem map_setCell {P : Program} {k : TypeId} {R : Value → Option (DataW Unit × List MemPlace)} {b n : Nat} (m : w.ownsMap P k R b n D) {q : Addr} (hq : b ≠ q.block) (u : Value) : (w.setCell q u).ownsMap P k R b n D := m.setCell hq u
theorem Sets.setCell (h : Sets w base xs S) {q : Addr} (hq : ∀ r : Array Value, w.heap[q.block]? ≠ some (.cells r 80 (0, 0))) (u : Value) : Sets (w.setCell q u) base xs S :=
  h.keep fun g cur _ hg => Below.heap_setCell w q u g fun e => hq cur (by rw [← e]; exact hg)
end
theorem DbB.below {w w' : World} {base p x : Nat} {d : DbP} (h : DbB w base p x d) (hb : Below w.heap.size w w') : DbB w' base p x d := by
  obtain ⟨An, nn, cn, bm, nm, D, As, ns, cs, xs, h⟩ := h.ex
  exact ⟨An, nn, cn, bm, nm, D, As, ns, cs, xs, h.below hb⟩
end Go.Proofs.YtejccafolfeabaaGreatDoor

