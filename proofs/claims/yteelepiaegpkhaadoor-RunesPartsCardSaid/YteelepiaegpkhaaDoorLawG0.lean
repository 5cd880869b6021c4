/-
  kerflaw02.RunesParts, walked.
-/
import Derived.Test.YteelepiaegpkhaaDoorSl
import Derived.Test.YteelepiaegpkhaaDoorPartsP
import Derived.Test.YteelepiaegpkhaaDoorRefZ
import Derived.Test.YteelepiaegpkhaaDoorAppIn
import Derived.Deep.RegionHeld3
import Derived.Laws.EntriesVeiled
import Derived.Test.YteelepiaegpkhaaDoorRng
namespace Go.Proofs.YteelepiaegpkhaaDoor
open Go.RowKit Go.Shelf
attribute [local go_sem] Oper.semAt_some

theorem seq2_nil (fn : Fn) (first captured : Array Value) (W : World) : (binOp .eql 51 (.func fn first captured) .nilFunc).run Tryd.prog W = .ok (.bool false) W := by kernel_rfl
def spn {s : ByteArray} (l : List (Span s)) : List (Nat × Nat) := l.map (·.1)
theorem spn_snoc {s : ByteArray} (l : List (Span s)) (x : Span s) : spn (l ++ [x]) = spn l ++ [x.1] := by simp [spn]
/-- Is each of the first k runes whole? -/
def vldB (s : ByteArray) (k : Nat) : Bool := ((runesP s).take k).all fun x => decide (x.1 ≠ 65533) || decide (x.2.2 - x.2.1 = 3)
theorem vldB_zero (s : ByteArray) : vldB s 0 = true := rfl
theorem vldB_succ {s : ByteArray} {k : Nat} {x : Nat × Nat × Nat} (h : (runesP s)[k]? = some x) : vldB s (k + 1) = (vldB s k && (decide (x.1 ≠ 65533) || decide (x.2.2 - x.2.1 = 3))) := by
  unfold vldB; rw [List.take_add_one, h, Option.toList_some, List.all_append]; simp
theorem vldB_all {s : ByteArray} (h : vldB s (runesP s).length = true) : ValidP s := by
  unfold vldB at h
  rw [List.take_of_length_le (Nat.le_refl _), List.all_eq_true] at h
  intro x hx
  have := h x hx
  rw [Bool.or_eq_true, decide_eq_true_eq, decide_eq_true_eq] at this
  exact this
/-- Two boxes have turned, and what is new. -/
structure Two (a b : Nat) (w w' : World) : Prop where
  os : w'.os = w.os
  tape : w'.tape = w.tape
  output : w'.output = w.output
  size : w.heap.size ≤ w'.heap.size
  block : ∀ k, k < w.heap.size → k ≠ a → k ≠ b → w'.heap[k]? = w.heap[k]?
theorem Two.refl (a b : Nat) (w : World) : Two a b w w := ⟨rfl, rfl, rfl, Nat.le_refl _, fun _ _ _ _ => rfl⟩
theorem Two.setCell {a b : Nat} {w w' : World} (h : Two a b w w') {p : Addr} (hp : p.block = a ∨ p.block = b) (u : Value) : Two a b w (w'.setCell p u) :=
  ⟨h.os, h.tape, h.output, by simpa [World.setCell] using h.size, fun k hk ha hb => (Below.heap_setCell w' p u k (by rintro rfl; rcases hp with hp | hp <;> omega)).trans (h.block k hk ha hb)⟩
theorem Two.drewN {a b : Nat} {w w' : World} (h : Two a b w w') (n : Nat) : Two a b w (w'.drewN n) := ⟨h.os, h.tape, h.output, h.size, h.block⟩
theorem Two.toBelow {a b B : Nat} {w w' : World} (h : Two a b w w') (hB : B ≤ w.heap.size) (ha : B ≤ a) (hb : B ≤ b) : RowKit.Below B w w' :=
  ⟨h.os, h.tape, h.output, h.size, fun k hk => h.block k (by omega) (by omega) (by omega)⟩
theorem Two.cell {a b : Nat} {w w' : World} (h : Two a b w w') {k i : Nat} {v : Value} (hv : w.cell? ⟨k, i, none⟩ = some v) (ha : k ≠ a) (hb : k ≠ b) : w'.cell? ⟨k, i, none⟩ = some v :=
  (World.cell?_of_block (h.block k (cell_lt hv) ha hb)).trans hv
theorem Rd.two {a b s : Nat} {w w' : World} {A : Option Addr} {cs : List (List Value)} (h : Rd w s A cs) (ht : Two a b w w') (hA : ∀ p, A = some p → p.block ≠ a ∧ p.block ≠ b) : Rd w' s A cs :=
  h.keep fun g off _ _ hp hv => ht.cell hv (hA ⟨g, off, none⟩ hp).1 (hA ⟨g, off, none⟩ hp).2
/-- Two elements taken off the front. -/
theorem Rd.tail2 {w : World} {g off : Nat} {y1 y2 : List Value} {r : List (List Value)} (h : Rd w 1 (some ⟨g, off, none⟩) (y1 :: y2 :: r)) : Rd w 1 (some ⟨g, off + 2, none⟩) r := by
  intro _
  obtain ⟨g', off', he, hc⟩ := h (by simp)
  injection he with he
  injection he with h1 h2
  subst h1; subst h2
  refine ⟨g, off + 2, rfl, fun k j x u hx hu => ?_⟩
  have := hc (k + 2) j x u (by simpa using hx) hu
  rw [show off + 2 + k * 1 + j = off + (k + 2) * 1 + j by omega]
  exact this
theorem Own.kept {w w' : World} {base : Nat} {e : TypeId} {s : Nat} {A : Option Addr} {n c : Nat} {cs : List (List Value)} {row : Option Nat} (h : Own w base e s A n c cs) (hg : w.grownBy w' row) (hr : ∀ r, row = some r → ∃ o : Obj, w.heap[r]? = some o ∧ o.isCells = false) : Own w' base e s A n c cs := by
  refine h.keep fun a ha => ?_
  have hl := (h.lt a ha).2
  refine hg.block _ hl fun e => ?_
  obtain ⟨o, h1, h2⟩ := hr _ e.symm
  rcases h.2.2.2 with ⟨h0, _⟩ | ⟨g, cap, cur, hv, _, hh, _⟩
  · injection h0 with h0; rw [ha] at h0; cases h0
  · injection hv with hv
    rw [ha] at hv
    injection hv with hv
    subst hv
    rw [hh] at h1
    cases h1
    cases h2
theorem Own.ofGrown {w w' : World} {base : Nat} {e : TypeId} {s : Nat} {A : Option Addr} {n c : Nat} {cs : List (List Value)} {row : Option Nat} (h : Own w base e s A n c cs) (hg : w.grownBy w' row) (hr : ∀ a, A = some a → some a.block ≠ row) : Own w' base e s A n c cs :=
  h.keep fun a ha => hg.block _ (h.lt a ha).2 (hr a ha)
/-- What is gathered in a box: a row of the call's own; nothing else has turned. -/
def Gath (w0 : World) (ab : Nat) (L : List (Nat × Nat)) (W : World) : Prop :=
  ∃ A n c, Blk W ab 53 #[.slice A n c] ∧ Own W w0.heap.size 3 1 A n c (encI2 L) ∧ w0.grownBy W (some ab)
theorem Gath.own {w0 : World} {ab B : Nat} (hB : w0.heap.size ≤ B) {s : ByteArray} : OwnFrom B (fun (pre : List (Span s)) W => Gath w0 ab (spn pre) W) := fun pre X Y row hs hg hr => by
  obtain ⟨A, n, c, h1, h2, h3⟩ := hs
  refine ⟨A, n, c, h1.kept hg (fun r e => (hr r e).2), h2.kept hg (fun r e => (hr r e).2), ⟨hg.os.trans h3.os, hg.tape.trans h3.tape, hg.output.trans h3.output, Nat.le_trans h3.size hg.size, fun k hk hne => ?_⟩⟩
  refine (hg.block k (Nat.lt_of_lt_of_le hk h3.size) (fun e => ?_)).trans (h3.block k hk hne)
  have := (hr k e.symm).1
  omega

end Go.Proofs.YteelepiaegpkhaaDoor
