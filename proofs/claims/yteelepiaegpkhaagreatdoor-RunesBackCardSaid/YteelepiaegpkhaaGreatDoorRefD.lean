/-
  kerfref02.Count, At, Index.
-/
import Derived.Test.YteelepiaegpkhaaGreatDoorRefC
namespace Go.Proofs.YteelepiaegpkhaaGreatDoor
open Go.RowKit

theorem ret_at {a b : Int} {c d : Bool} (h : (a, c) = (b, d)) (k : IntKind) : Ending.returned (.tuple #[.int k a, .bool c]) = .returned (.tuple #[.int k b, .bool d]) := by cases h; rfl

end Go.Proofs.YteelepiaegpkhaaGreatDoor
