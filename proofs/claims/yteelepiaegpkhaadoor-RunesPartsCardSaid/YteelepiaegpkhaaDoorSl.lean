/-
  THE CONTRACTS OVER LISTS OF RANGES, in one short form.
-/
import Derived.Test.YteelepiaegpkhaaDoorLive2
namespace Go.Proofs.YteelepiaegpkhaaDoor
open Go.RowKit

/-- The slice at A of n elements reads as the list l. -/
structure Sl (w : World) (A : Option Addr) (n : Nat) (l : List (Int × Int)) : Prop where
  rd : Rd w 2 A (l.map encR)
  len : l.length = n
  le : n ≤ 600000
theorem Sl.below {w w' : World} {A : Option Addr} {n : Nat} {l : List (Int × Int)} (h : Sl w A n l) (hb : RowKit.Below w.heap.size w w') : Sl w' A n l := ⟨h.rd.below hb, h.len, h.le⟩
theorem Sl.drewN {w : World} {A : Option Addr} {n : Nat} {l : List (Int × Int)} (h : Sl w A n l) (q : Nat) : Sl (w.drewN q) A n l := ⟨h.rd, h.len, h.le⟩
theorem Sl.nil_ (w : World) : Sl w none 0 [] := ⟨Rd.nil_ _ _ _, rfl, by omega⟩
theorem Sl.own {w : World} {base : Nat} {e : TypeId} {A : Option Addr} {n c : Nat} {l : List (Int × Int)} (h : Own w base e 2 A n c (l.map encR)) (hl : NF l) : Sl w A n l := ⟨h.rd (by omega), by simpa using h.len, by have := own_nf_len h hl; omega⟩
/-- What a call leaves that makes a list. -/
def SlEnd (w : World) (l : List (Int × Int)) (e : Ending) (w' : World) : Prop := ∃ A n c, e = .returned (.slice A n c) ∧ Sl w' A n l ∧ RowKit.Below w.heap.size w w'
theorem slrNorm {w : World} {A : Option Addr} {n c : Nat} {l : List (Int × Int)} (h : Sl w A n l) : Calls Tryd.prog 17 #[.slice A n c] w (SlEnd w (normR l)) :=
  (rNorm_any A n c l w h.rd h.len (by have := h.le; omega)).mono fun _ _ ⟨A', n', c', he, ho, hb⟩ => ⟨A', n', c', he, Sl.own ho (normR_NF l), hb⟩
theorem slrNot {w : World} {A : Option Addr} {n c : Nat} {l : List (Int × Int)} (h : Sl w A n l) : Calls Tryd.prog 41 #[.slice A n c] w (SlEnd w (notR l)) :=
  (rNot_any A n c l w h.rd h.len (by have := h.le; omega)).mono fun _ _ ⟨A', n', c', he, ho, hb⟩ => ⟨A', n', c', he, Sl.own ho (notR_NF l), hb⟩
theorem slrOr {w : World} {A B : Option Addr} {n c m d : Nat} {l q : List (Int × Int)} (h : Sl w A n l) (k : Sl w B m q) : Calls Tryd.prog 35 #[.slice A n c, .slice B m d] w (SlEnd w (orR l q)) :=
  (rOr_any A B n c m d l q w h.rd k.rd h.len k.len (by have := h.le; have := k.le; omega)).mono fun _ _ ⟨A', n', c', he, ho, hb⟩ => ⟨A', n', c', he, Sl.own ho (orR_NF l q), hb⟩
theorem slrAnd {w : World} {A B : Option Addr} {n c m d : Nat} {l q : List (Int × Int)} (h : Sl w A n l) (k : Sl w B m q) : Calls Tryd.prog 37 #[.slice A n c, .slice B m d] w (SlEnd w (andR l q)) :=
  (rAnd_any A B n c m d l q w h.rd k.rd h.len k.len (by have := h.le; omega) (by have := k.le; omega)).mono fun _ _ ⟨A', n', c', he, ho, hb⟩ => ⟨A', n', c', he, Sl.own ho (andR_NF l q), hb⟩
theorem slrMinus {w : World} {A B : Option Addr} {n c m d : Nat} {l q : List (Int × Int)} (h : Sl w A n l) (k : Sl w B m q) : Calls Tryd.prog 39 #[.slice A n c, .slice B m d] w (SlEnd w (minusR l q)) :=
  (rMinus_any A B n c m d l q w h.rd k.rd h.len k.len (by have := h.le; omega) (by have := k.le; omega)).mono fun _ _ ⟨A', n', c', he, ho, hb⟩ => ⟨A', n', c', he, Sl.own ho (minusR_NF l q), hb⟩
theorem slrIs {w : World} {A : Option Addr} {n c : Nat} {l : List (Int × Int)} (h : Sl w A n l) : Calls Tryd.prog 19 #[.slice A n c] w fun e w' => e = .returned (.bool (decide (l = normR l))) ∧ RowKit.Below w.heap.size w w' :=
  rIs_any A n c l w h.rd h.len (by have := h.le; omega)
theorem slrCount {w : World} {A : Option Addr} {n c : Nat} {l : List (Int × Int)} (h : Sl w A n l) : Calls Tryd.prog 47 #[.slice A n c] w fun e w' => e = .returned (.int .i64 (countR l)) ∧ RowKit.Below w.heap.size w w' :=
  rCount_any A n c l w h.rd h.len (by have := h.le; omega)
theorem slrAt {w : World} {A : Option Addr} {n c : Nat} {l : List (Int × Int)} (i : Int) (hi : i ≤ 9223372036854775807) (h : Sl w A n l) : Calls Tryd.prog 44 #[.slice A n c, .int .i64 i] w fun e w' => e = .returned (.tuple #[.int .i32 (atR l i).1, .bool (atR l i).2]) ∧ RowKit.Below w.heap.size w w' :=
  rAt_any A n c l i w h.rd h.len (by have := h.le; omega) hi
theorem slrIndex {w : World} {A : Option Addr} {n c : Nat} {l : List (Int × Int)} (r : Int) (h : Sl w A n l) : Calls Tryd.prog 45 #[.slice A n c, .int .i32 r] w fun e w' => e = .returned (.tuple #[.int .i64 (ixR l r).1, .bool (ixR l r).2]) ∧ RowKit.Below w.heap.size w w' :=
  rIndex_any A n c l r w h.rd h.len (by have := h.le; omega)
theorem slsNorm {w : World} {A : Option Addr} {n c : Nat} {l : List (Int × Int)} (h : Sl w A n l) : Calls Tryd.prog 18 #[.slice A n c] w (SlEnd w (normR l)) :=
  (sNorm_any A n c l w h.rd h.len (by have := h.le; omega)).mono fun _ _ ⟨A', n', c', he, ho, hb⟩ => ⟨A', n', c', he, Sl.own ho (normR_NF l), hb⟩
theorem slsNot {w : World} {A : Option Addr} {n c : Nat} {l : List (Int × Int)} (h : Sl w A n l) : Calls Tryd.prog 42 #[.slice A n c] w (SlEnd w (notR l)) :=
  (sNot_any A n c l w h.rd h.len (by have := h.le; omega)).mono fun _ _ ⟨A', n', c', he, ho, hb⟩ => ⟨A', n', c', he, Sl.own ho (notR_NF l), hb⟩
theorem slsOr {w : World} {A B : Option Addr} {n c m d : Nat} {l q : List (Int × Int)} (h : Sl w A n l) (k : Sl w B m q) : Calls Tryd.prog 36 #[.slice A n c, .slice B m d] w (SlEnd w (orR l q)) :=
  (sOr_any A B n c m d l q w h.rd k.rd h.len k.len (by have := h.le; have := k.le; omega)).mono fun _ _ ⟨A', n', c', he, ho, hb⟩ => ⟨A', n', c', he, Sl.own ho (orR_NF l q), hb⟩
theorem slsAnd {w : World} {A B : Option Addr} {n c m d : Nat} {l q : List (Int × Int)} (h : Sl w A n l) (k : Sl w B m q) : Calls Tryd.prog 38 #[.slice A n c, .slice B m d] w (SlEnd w (andR l q)) :=
  (sAnd_any A B n c m d l q w h.rd k.rd h.len k.len (by have := h.le; omega) (by have := k.le; omega)).mono fun _ _ ⟨A', n', c', he, ho, hb⟩ => ⟨A', n', c', he, Sl.own ho (andR_NF l q), hb⟩
theorem slsMinus {w : World} {A B : Option Addr} {n c m d : Nat} {l q : List (Int × Int)} (h : Sl w A n l) (k : Sl w B m q) : Calls Tryd.prog 40 #[.slice A n c, .slice B m d] w (SlEnd w (minusR l q)) :=
  (sMinus_any A B n c m d l q w h.rd k.rd h.len k.len (by have := h.le; omega) (by have := k.le; omega)).mono fun _ _ ⟨A', n', c', he, ho, hb⟩ => ⟨A', n', c', he, Sl.own ho (minusR_NF l q), hb⟩
theorem slsIs {w : World} {A : Option Addr} {n c : Nat} {l : List (Int × Int)} (h : Sl w A n l) : Calls Tryd.prog 20 #[.slice A n c] w fun e w' => e = .returned (.bool (decide (l = normR l))) ∧ RowKit.Below w.heap.size w w' :=
  sIs_any A n c l w h.rd h.len (by have := h.le; omega)
theorem slsCount {w : World} {A : Option Addr} {n c : Nat} {l : List (Int × Int)} (h : Sl w A n l) : Calls Tryd.prog 25 #[.slice A n c] w fun e w' => e = .returned (.int .i64 (countR l)) ∧ RowKit.Below w.heap.size w w' :=
  sCount_any A n c l w h.rd h.len (by have := h.le; omega)
theorem slsAt {w : World} {A : Option Addr} {n c : Nat} {l : List (Int × Int)} (i : Int) (hi : i ≤ 9223372036854775807) (h : Sl w A n l) : Calls Tryd.prog 26 #[.slice A n c, .int .i64 i] w fun e w' => e = .returned (.tuple #[.int .i32 (atR l i).1, .bool (atR l i).2]) ∧ RowKit.Below w.heap.size w w' :=
  sAt_any A n c l i w h.rd h.len (by have := h.le; omega) hi
theorem slsIndex {w : World} {A : Option Addr} {n c : Nat} {l : List (Int × Int)} (r : Int) (h : Sl w A n l) : Calls Tryd.prog 46 #[.slice A n c, .int .i32 r] w fun e w' => e = .returned (.tuple #[.int .i64 (ixR l r).1, .bool (ixR l r).2]) ∧ RowKit.Below w.heap.size w w' :=
  sIndex_any A n c l r w h.rd h.len (by have := h.le; omega)
theorem slrHas {w : World} {A : Option Addr} {n c : Nat} {l : List (Int × Int)} (r : Int) (h : Sl w A n l) : Calls Tryd.prog 22 #[.slice A n c, .int .i32 r] w fun e w' => e = .returned (.bool (hasB l r)) ∧ RowKit.Below w.heap.size w w' :=
  rHas_any A n c l r w h.rd h.len (by have := h.le; omega)
theorem slsHas {w : World} {A : Option Addr} {n c : Nat} {l : List (Int × Int)} (r : Int) (h : Sl w A n l) : Calls Tryd.prog 23 #[.slice A n c, .int .i32 r] w fun e w' => e = .returned (.bool (hasB l r)) ∧ RowKit.Below w.heap.size w w' :=
  (sHas_any A n c l r w h.rd h.len (by have := h.le; omega)).mono fun _ _ ⟨h1, h2⟩ => ⟨h1, by rw [← h2]; exact RowKit.Below.refl _ _⟩
theorem slSame {w : World} {A B : Option Addr} {n c m d : Nat} {l q : List (Int × Int)} (h : Sl w A n l) (k : Sl w B m q) (e : l = q) : Calls Tryd.prog 14 #[.slice A n c, .slice B m d] w fun e w' => e = .returned (.bool true) ∧ RowKit.Below w.heap.size w w' :=
  (sSame_any A B n c m d l q w h.rd k.rd h.len k.len (by unfold maxLen; have := h.le; omega) (by unfold maxLen; have := k.le; omega)).mono fun _ _ ⟨h1, p, h2⟩ => ⟨by rw [h1, decide_eq_true e], by rw [h2]; exact below_drewN (RowKit.Below.refl _ _) p⟩
/-- A list with spare room behind it. -/
structure Ow (w : World) (g n c : Nat) (l : List (Int × Int)) : Prop where
  rd : Rd w 2 (some ⟨g, 0, none⟩) ((spare l).map encR)
  len : l.length = n
  le : n ≤ 600000
  cap : n + 1 ≤ c
theorem Ow.below {w w' : World} {g n c : Nat} {l : List (Int × Int)} (h : Ow w g n c l) (hb : RowKit.Below w.heap.size w w') : Ow w' g n c l := ⟨h.rd.below hb, h.len, h.le, h.cap⟩
theorem Ow.sl {w : World} {g n c : Nat} {l : List (Int × Int)} (h : Ow w g n c l) : Sl w (some ⟨g, 0, none⟩) n l := ⟨Rd.preR h.rd, h.len, h.le⟩
theorem slOwn {w : World} {A : Option Addr} {n c : Nat} {l : List (Int × Int)} (h : Sl w A n l) : Calls Tryd.prog 16 #[.slice A n c] w fun e w' => ∃ g c', e = .returned (.slice (some ⟨g, 0, none⟩) n c') ∧ Ow w' g n c' l ∧ RowKit.Below w.heap.size w w' ∧ w.heap.size ≤ g :=
  (kown_any A n c l w h.rd h.len (by have := h.le; omega)).mono fun _ _ ⟨g, c', he, ho, hb⟩ => ⟨g, c', he, ⟨ho.rd (by omega), h.len, h.le, ho.cap.1⟩, hb, (ho.lt _ rfl).1⟩
theorem slKept {w : World} {g n c m d : Nat} {B : Option Addr} {l : List (Int × Int)} (h : Ow w g n c l) (k : Sl w B m l) : Calls Tryd.prog 21 #[.slice (some ⟨g, 0, none⟩) n c, .slice B m d] w fun e w' => e = .returned (.bool true) ∧ RowKit.Below w.heap.size w w' :=
  (kkept_any g n c m d B l w h.rd k.rd h.len k.len h.cap (by have := h.le; omega)).mono fun _ _ ⟨h1, p, h2⟩ => ⟨h1, by rw [h2]; exact below_drewN (RowKit.Below.refl _ _) p⟩
end Go.Proofs.YteelepiaegpkhaaDoor
