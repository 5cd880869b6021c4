/- -/
import Derived.Laws.BitsAllLaws
import Derived.Laws.Bits
import Derived.Test.YtglmcknlnoknoaaGreatDoorYWordWords0b
import Derived.Test.YtglmcknlnoknoaaGreatDoorW0a
namespace Go.Proofs.YtglmcknlnoknoaaGreatDoor
set_option maxRecDepth 100000
set_option maxHeartbeats 40000000
section
open Go.RowKit
section
variable {g : Nat→Nat} {n : Nat}
end
end
end Go.Proofs.YtglmcknlnoknoaaGreatDoor
