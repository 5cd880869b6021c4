/- -/
import Derived.Test.YtlfpdpbbkjnapaaGreatDoorPRefV
namespace Go.Proofs.YtlfpdpbbkjnapaaGreatDoor
set_option maxRecDepth 100000
set_option maxHeartbeats 40000000
section
open Go.RowKit
end
end Go.Proofs.YtlfpdpbbkjnapaaGreatDoor
