/- -/
import Derived.Test.YtglmcknlnoknoaaGreatDoorYGraphemeSafe0a
import Derived.Test.YtglmcknlnoknoaaGreatDoorG6a
namespace Go.Proofs.YtglmcknlnoknoaaGreatDoor
open Go.RowKit
section
variable {w w' : World} {t : TypeId} {B base bt bi : Nat} {s : ByteArray} {q : Nat} {tl : List Value} {A1 : Option Addr} {n1 c1 : Nat} {A2 : Option Addr} {n2 c2 : Nat} {P : List Nat} {C : List Int}
end
end Go.Proofs.YtglmcknlnoknoaaGreatDoor
