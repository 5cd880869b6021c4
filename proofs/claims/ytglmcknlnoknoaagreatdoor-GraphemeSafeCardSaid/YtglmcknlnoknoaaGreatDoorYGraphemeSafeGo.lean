/- -/
import Derived.Test.YtglmcknlnoknoaaGreatDoorYGraphemeSafeGf
import Derived.Test.YtglmcknlnoknoaaGreatDoorYGraphemeSafe1a
import Derived.Test.YtglmcknlnoknoaaGreatDoorYGraphemeSafe0b
namespace Go.Proofs.YtglmcknlnoknoaaGreatDoor
open Go.RowKit Go.Shelf
attribute [local go_sem] Oper.semAt_some
end Go.Proofs.YtglmcknlnoknoaaGreatDoor
