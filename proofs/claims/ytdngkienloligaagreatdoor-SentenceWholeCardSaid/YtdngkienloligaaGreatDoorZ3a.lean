/- -/
import Derived.Test.YtdngkienloligaaGreatDoorZRefV
namespace Go.Proofs.YtdngkienloligaaGreatDoor
open Go.RowKit
end Go.Proofs.YtdngkienloligaaGreatDoor

