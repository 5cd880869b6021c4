/-
  kerfref02.Not, And, Minus.
-/
import Derived.Test.YteelepiaegpkhaaGreatDoorRefB
namespace Go.Proofs.YteelepiaegpkhaaGreatDoor
open Go.RowKit

theorem own_nf_len {w : World} {base : Nat} {e : TypeId} {A : Option Addr} {n c : Nat} {l : List (Int × Int)} (h : Own w base e 2 A n c (l.map encR)) (hl : NF l) : n ≤ 557056 := by
  have := h.len; simp at this; have := hl.len; omega

end Go.Proofs.YteelepiaegpkhaaGreatDoor
