/- -/
import Derived.RegionTactic
import Derived.BigRegion
import Derived.Test.YtglmcknlnoknoaaGreatDoorYGraphemeSafe0a
import Derived.Test.YtglmcknlnoknoaaGreatDoorYGraphemeSafe1a
namespace Go.Proofs.YtglmcknlnoknoaaGreatDoor
open Go.RowKit
end Go.Proofs.YtglmcknlnoknoaaGreatDoor
