/- -/
import Derived.Lib.DecodeN
import Derived.Test.YtdngkienloligaaGreatDoorZ1a
namespace Go.Proofs.YtdngkienloligaaGreatDoor
open Go.RowKit
end Go.Proofs.YtdngkienloligaaGreatDoor

