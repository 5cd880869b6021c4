/-
  kerfref02.Is, Has, Or, Not, And, Minus.
-/
import Derived.Test.YteelepiaegpkhaaGreatDoorRefA
import Derived.Test.YteelepiaegpkhaaGreatDoorSame
namespace Go.Proofs.YteelepiaegpkhaaGreatDoor
open Go.RowKit
end Go.Proofs.YteelepiaegpkhaaGreatDoor
