/-
  WORDS FOR MEMORY: a slice that reads as a list of elements of s cells each (nil let in); what keeps such a reading. No program in sight.
-/
import Derived.Below
import Derived.Laws.OwnMore
import Derived.Deep.AppendLies
import Derived.Deep.Draws
import Derived.Lib.Hide
namespace Go.Proofs.YteelepiaegpkhaaGreatDoor
open Go.RowKit

theorem cell_lt {w : World} {p : Addr} {u : Value} (h : w.cell? p = some u) : p.block < w.heap.size := by
  rcases Nat.lt_or_ge p.block w.heap.size with hlt | hge
  · exact hlt
  · unfold World.cell? at h; rw [Array.getElem?_eq_none hge] at h; cases h

theorem cell_below {w w' : World} {B : Nat} {p : Addr} {u : Value} (h : w.cell? p = some u) (hp : p.block < B) (hb : Below B w w') : w'.cell? p = some u := (hb.cell hp).trans h
theorem cell_keep {w w' : World} {p : Addr} {u : Value} (h : w.cell? p = some u) (hb : Below w.heap.size w w') : w'.cell? p = some u := (hb.cell (cell_lt h)).trans h
theorem below_drewN {B : Nat} {a w : World} (h : Below B a w) (n : Nat) : Below B a (w.drewN n) := ⟨h.os, h.tape, h.output, h.size, h.block⟩
theorem below_refl_drewN {B : Nat} (w : World) (n : Nat) : Below B w (w.drewN n) := below_drewN (Below.refl _ _) n
theorem below_step {B : Nat} {a b c : World} (h : Below B a b) (k : Below b.heap.size b c) (hB : B ≤ b.heap.size) : Below B a c := h.trans (k.mono hB)
/-- Below its own size: two steps one behind the other. -/
theorem below_two {a b c : World} (h : Below a.heap.size a b) (k : Below b.heap.size b c) : Below a.heap.size a c := below_step h k h.size

/-- The slice at A holds the elements cs, each of s cells. -/
def Rd (w : World) (s : Nat) (A : Option Addr) (cs : List (List Value)) : Prop :=
  cs ≠ [] → ∃ b off, A = some ⟨b, off, none⟩ ∧ ∀ (k j : Nat) (x : List Value) (u : Value), cs[k]? = some x → x[j]? = some u → w.cell? ⟨b, off + k * s + j, none⟩ = some u

section
variable {w w' : World} {s : Nat} {A : Option Addr} {cs : List (List Value)}
theorem Rd.nil_ (w : World) (s : Nat) (A : Option Addr) : Rd w s A [] := fun h => absurd rfl h
theorem Rd.keep (h : Rd w s A cs) (hk : ∀ (b off i : Nat) (u : Value), A = some ⟨b, off, none⟩ → w.cell? ⟨b, i, none⟩ = some u → w'.cell? ⟨b, i, none⟩ = some u) : Rd w' s A cs := fun hn => by
  obtain ⟨b, off, rfl, hc⟩ := h hn
  exact ⟨b, off, rfl, fun k j x u hx hu => hk b off _ u rfl (hc k j x u hx hu)⟩
theorem Rd.below (h : Rd w s A cs) (hb : Below w.heap.size w w') : Rd w' s A cs := h.keep fun _ _ _ _ _ hp => cell_keep hp hb
theorem Rd.belowB {B : Nat} (h : Rd w s A cs) (hb : Below B w w') (hB : ∀ a, A = some a → a.block < B) : Rd w' s A cs :=
  h.keep fun b off i _ ha hp => cell_below (p := ⟨b, i, none⟩) hp (hB ⟨b, off, none⟩ ha) hb
theorem Rd.drewN (h : Rd w s A cs) (n : Nat) : Rd (w.drewN n) s A cs := h
theorem Rd.drew (h : Rd w s A cs) : Rd w.drew s A cs := h
theorem Rd.alloc (h : Rd w s A cs) (o : Obj) : Rd (w.alloc o) s A cs := h.below ((Below.refl _ _).alloc (Nat.le_refl _) o)
theorem Rd.setCell (h : Rd w s A cs) {p : Addr} (hp : ∀ a, A = some a → a.block ≠ p.block) (u : Value) : Rd (w.setCell p u) s A cs :=
  h.keep fun b off i v ha hc => (World.cell?_setCell_other w p ⟨b, i, none⟩ u (fun e => hp _ ha (by rw [e]))).trans hc
theorem Rd.lt (h : Rd w s A cs) (hs : ∀ x ∈ cs, x ≠ []) (hn : cs ≠ []) : ∃ b off, A = some ⟨b, off, none⟩ ∧ b < w.heap.size := by
  obtain ⟨b, off, rfl, hc⟩ := h hn
  cases cs with
  | nil => exact absurd rfl hn
  | cons x r =>
    cases x with
    | nil => exact absurd rfl (hs _ (by simp))
    | cons u y => exact ⟨b, off, rfl, cell_lt (hc 0 0 (u :: y) u rfl rfl)⟩

theorem flatten_get {s : Nat} : ∀ {cs : List (List Value)} (_ : ∀ x ∈ cs, x.length = s) {k j : Nat} {x : List Value} {u : Value} (_ : cs[k]? = some x) (_ : x[j]? = some u), cs.flatten[k * s + j]? = some u
  | [], _, k, j, x, u, hx, _ => by simp at hx
  | y :: r, hs, 0, j, x, u, hx, hu => by
    obtain rfl : y = x := by simpa using hx
    have hj : j < y.length := (List.getElem?_eq_some_iff.1 hu).1
    simp only [List.flatten_cons, Nat.zero_mul, Nat.zero_add]
    rw [List.getElem?_append_left hj]; exact hu
  | y :: r, hs, k + 1, j, x, u, hx, hu => by
    have hy : y.length = s := hs y (by simp)
    have := flatten_get (cs := r) (fun z hz => hs z (by simp [hz])) (k := k) (j := j) (x := x) (u := u) (by simpa using hx) hu
    simp only [List.flatten_cons]
    rw [List.getElem?_append_right (by rw [hy, Nat.add_mul]; omega), hy, show (k + 1) * s + j - s = k * s + j by rw [Nat.add_mul]; omega]
    exact this

theorem Rd.of_own {base n c : Nat} {e : TypeId} (h : w.ownsRow base e s (.slice A n c) n cs.flatten) (hs : ∀ x ∈ cs, x.length = s) (hpos : 0 < s) : Rd w s A cs := by
  intro hn
  have hl : 0 < n := by
    rcases Nat.eq_zero_or_pos n with h0 | h0
    · subst h0
      have h1 := h.1
      cases cs with
      | nil => exact absurd rfl hn
      | cons x r => have := hs x (by simp); simp at h1; simp [h1.1] at this; omega
    · exact h0
  obtain ⟨g, cap, hv, _, _⟩ := h.form hl
  injection hv with hA
  subst hA
  refine ⟨g, 0, rfl, fun k j x u hx hu => ?_⟩
  have := h.cells (g := g) rfl (k * s + j) u (flatten_get hs hx hu)
  unfold Addr.add at this
  split at this
  · rename_i h0
    rw [show 0 + k * s + j = 0 by omega]; exact this
  · simpa using this
end

/-- Elements of one cell. -/
theorem Rd.at1 {α : Type} {w : World} {A : Option Addr} {l : List α} {enc : α → Value} (h : Rd w 1 A (l.map fun x => [enc x])) {k : Nat} (hk : k < l.length) :
    ∃ b off x, A = some ⟨b, off, none⟩ ∧ Hid (l[k]? = some x) ∧ w.cell? ⟨b, off + k, none⟩ = some (enc x) := by
  obtain ⟨b, off, rfl, hc⟩ := h (by intro e; cases l with | nil => simp at hk | cons _ _ => simp at e)
  have := hc k 0 [enc l[k]] (enc l[k]) (by simp [hk]) rfl
  exact ⟨b, off, l[k], rfl, List.getElem?_eq_getElem hk, by simpa using this⟩

/-- A range's two cells. -/
def encR (r : Int × Int) : List Value := [.int .i32 r.1, .int .i32 r.2]
theorem encR_len (l : List (Int × Int)) : ∀ x ∈ l.map encR, x.length = 2 := by
  intro x hx; obtain ⟨r, _, rfl⟩ := List.mem_map.1 hx; rfl
theorem Rd.atR {w : World} {A : Option Addr} {l : List (Int × Int)} (h : Rd w 2 A (l.map encR)) {k : Nat} (hk : k < l.length) :
    ∃ b off lo hi, A = some ⟨b, off, none⟩ ∧ Hid (l[k]? = some (lo, hi)) ∧ w.cell? ⟨b, off + k * 2, none⟩ = some (.int .i32 lo) ∧ w.cell? ⟨b, off + k * 2 + 1, none⟩ = some (.int .i32 hi) := by
  obtain ⟨b, off, rfl, hc⟩ := h (by intro e; cases l with | nil => simp at hk | cons _ _ => simp at e)
  have h0 := hc k 0 (encR l[k]) (.int .i32 l[k].1) (by simp [hk]) rfl
  have h1 := hc k 1 (encR l[k]) (.int .i32 l[k].2) (by simp [hk]) rfl
  exact ⟨b, off, l[k].1, l[k].2, rfl, List.getElem?_eq_getElem hk, by simpa using h0, h1⟩
theorem drN1 (w : World) (a : Nat) : ∃ q, w.drewN a = w.drewN q := ⟨a, rfl⟩
theorem drN2 (w : World) (a b : Nat) : ∃ q, (w.drewN a).drewN b = w.drewN q := ⟨a + b, by simp⟩
theorem ret_bool {a b : Bool} (h : a = b) : Ending.returned (.bool a) = .returned (.bool b) := by rw [h]
theorem ret_int {k : IntKind} {a b : Int} (h : a = b) : Ending.returned (.int k a) = .returned (.int k b) := by rw [h]
end Go.Proofs.YteelepiaegpkhaaGreatDoor
