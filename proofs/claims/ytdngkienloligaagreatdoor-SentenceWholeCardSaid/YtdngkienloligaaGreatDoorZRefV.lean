/- -/
import Derived.Test.YtdngkienloligaaGreatDoorZRefU
namespace Go.Proofs.YtdngkienloligaaGreatDoor
open Go.RowKit
end Go.Proofs.YtdngkienloligaaGreatDoor

