/-
  THE CONTRACTS OVER LISTS OF RANGES, in one short form.
-/
import Derived.Test.YteelepiaegpkhaaGreatDoorLive2
namespace Go.Proofs.YteelepiaegpkhaaGreatDoor
open Go.RowKit

/-- The slice at A of n elements reads as the list l. -/
structure Sl (w : World) (A : Option Addr) (n : Nat) (l : List (Int × Int)) : Prop where
  rd : Rd w 2 A (l.map encR)
  len : l.length = n
  le : n ≤ 600000
theorem Sl.below {w w' : World} {A : Option Addr} {n : Nat} {l : List (Int × Int)} (h : Sl w A n l) (hb : RowKit.Below w.heap.size w w') : Sl w' A n l := ⟨h.rd.below hb, h.len, h.le⟩
theorem Sl.drewN {w : World} {A : Option Addr} {n : Nat} {l : List (Int × Int)} (h : Sl w A n l) (q : Nat) : Sl (w.drewN q) A n l := ⟨h.rd, h.len, h.le⟩
theorem Sl.nil_ (w : World) : Sl w none 0 [] := ⟨Rd.nil_ _ _ _, rfl, by omega⟩
theorem Sl.own {w : World} {base : Nat} {e : TypeId} {A : Option Addr} {n c : Nat} {l : List (Int × Int)} (h : Own w base e 2 A n c (l.map encR)) (hl : NF l) : Sl w A n l := ⟨h.rd (by omega), by simpa using h.len, by have := own_nf_len h hl; omega⟩
/-- What a call leaves that makes a list. -/
def SlEnd (w : World) (l : List (Int × Int)) (e : Ending) (w' : World) : Prop := ∃ A n c, e = .returned (.slice A n c) ∧ Sl w' A n l ∧ RowKit.Below w.heap.size w w'
theorem slrNorm {w : World} {A : Option Addr} {n c : Nat} {l : List (Int × Int)} (h : Sl w A n l) : Calls Tryz.prog 11 #[.slice A n c] w (SlEnd w (normR l)) :=
  (rNorm_any A n c l w h.rd h.len (by have := h.le; omega)).mono fun _ _ ⟨A', n', c', he, ho, hb⟩ => ⟨A', n', c', he, Sl.own ho (normR_NF l), hb⟩
theorem slrNot {w : World} {A : Option Addr} {n c : Nat} {l : List (Int × Int)} (h : Sl w A n l) : Calls Tryz.prog 13 #[.slice A n c] w (SlEnd w (notR l)) :=
  (rNot_any A n c l w h.rd h.len (by have := h.le; omega)).mono fun _ _ ⟨A', n', c', he, ho, hb⟩ => ⟨A', n', c', he, Sl.own ho (notR_NF l), hb⟩
theorem slrAt {w : World} {A : Option Addr} {n c : Nat} {l : List (Int × Int)} (i : Int) (hi : i ≤ 9223372036854775807) (h : Sl w A n l) : Calls Tryz.prog 14 #[.slice A n c, .int .i64 i] w fun e w' => e = .returned (.tuple #[.int .i32 (atR l i).1, .bool (atR l i).2]) ∧ RowKit.Below w.heap.size w w' :=
  rAt_any A n c l i w h.rd h.len (by have := h.le; omega) hi
theorem slsNorm {w : World} {A : Option Addr} {n c : Nat} {l : List (Int × Int)} (h : Sl w A n l) : Calls Tryz.prog 20 #[.slice A n c] w (SlEnd w (normR l)) :=
  (sNorm_any A n c l w h.rd h.len (by have := h.le; omega)).mono fun _ _ ⟨A', n', c', he, ho, hb⟩ => ⟨A', n', c', he, Sl.own ho (normR_NF l), hb⟩
theorem slrHas {w : World} {A : Option Addr} {n c : Nat} {l : List (Int × Int)} (r : Int) (h : Sl w A n l) : Calls Tryz.prog 36 #[.slice A n c, .int .i32 r] w fun e w' => e = .returned (.bool (hasB l r)) ∧ RowKit.Below w.heap.size w w' :=
  rHas_any A n c l r w h.rd h.len (by have := h.le; omega)
theorem slSame {w : World} {A B : Option Addr} {n c m d : Nat} {l q : List (Int × Int)} (h : Sl w A n l) (k : Sl w B m q) (e : l = q) : Calls Tryz.prog 10 #[.slice A n c, .slice B m d] w fun e w' => e = .returned (.bool true) ∧ RowKit.Below w.heap.size w w' :=
  (sSame_any A B n c m d l q w h.rd k.rd h.len k.len (by unfold maxLen; have := h.le; omega) (by unfold maxLen; have := k.le; omega)).mono fun _ _ ⟨h1, p, h2⟩ => ⟨by rw [h1, decide_eq_true e], by rw [h2]; exact below_drewN (RowKit.Below.refl _ _) p⟩
/-- A list with spare room behind it. -/
structure Ow (w : World) (g n c : Nat) (l : List (Int × Int)) : Prop where
  rd : Rd w 2 (some ⟨g, 0, none⟩) ((spare l).map encR)
  len : l.length = n
  le : n ≤ 600000
  cap : n + 1 ≤ c
theorem Ow.below {w w' : World} {g n c : Nat} {l : List (Int × Int)} (h : Ow w g n c l) (hb : RowKit.Below w.heap.size w w') : Ow w' g n c l := ⟨h.rd.below hb, h.len, h.le, h.cap⟩
theorem Ow.sl {w : World} {g n c : Nat} {l : List (Int × Int)} (h : Ow w g n c l) : Sl w (some ⟨g, 0, none⟩) n l := ⟨Rd.preR h.rd, h.len, h.le⟩
theorem slOwn {w : World} {A : Option Addr} {n c : Nat} {l : List (Int × Int)} (h : Sl w A n l) : Calls Tryz.prog 5 #[.slice A n c] w fun e w' => ∃ g c', e = .returned (.slice (some ⟨g, 0, none⟩) n c') ∧ Ow w' g n c' l ∧ RowKit.Below w.heap.size w w' ∧ w.heap.size ≤ g :=
  (kown_any A n c l w h.rd h.len (by have := h.le; omega)).mono fun _ _ ⟨g, c', he, ho, hb⟩ => ⟨g, c', he, ⟨ho.rd (by omega), h.len, h.le, ho.cap.1⟩, hb, (ho.lt _ rfl).1⟩
theorem slKept {w : World} {g n c m d : Nat} {B : Option Addr} {l : List (Int × Int)} (h : Ow w g n c l) (k : Sl w B m l) : Calls Tryz.prog 12 #[.slice (some ⟨g, 0, none⟩) n c, .slice B m d] w fun e w' => e = .returned (.bool true) ∧ RowKit.Below w.heap.size w w' :=
  (kkept_any g n c m d B l w h.rd k.rd h.len k.len h.cap (by have := h.le; omega)).mono fun _ _ ⟨h1, p, h2⟩ => ⟨h1, by rw [h2]; exact below_drewN (RowKit.Below.refl _ _) p⟩
end Go.Proofs.YteelepiaegpkhaaGreatDoor
