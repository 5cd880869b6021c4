/- -/
import Derived.Test.YtglmcknlnoknoaaGreatDoorYGraphemeSafe1a
namespace Go.Proofs.YtglmcknlnoknoaaGreatDoor
open Go.RowKit
section
variable {cl : List Nat} {C0 : Option Addr} {n c0 : Nat}
end
end Go.Proofs.YtglmcknlnoknoaaGreatDoor
