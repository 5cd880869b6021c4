/- -/
import Derived.Test.YtdngkienloligaaGreatDoorZ3a
import Derived.Test.YtdngkienloligaaGreatDoorZ0a
namespace Go.Proofs.YtdngkienloligaaGreatDoor
open Go.RowKit
end Go.Proofs.YtdngkienloligaaGreatDoor

