/- -/
import Derived.OwnWalk
import Derived.Test.YtdngkienloligaaGreatDoorYSentenceWhole1a
import Derived.Test.YtdngkienloligaaGreatDoorYSentenceWhole0a
namespace Go.Proofs.YtdngkienloligaaGreatDoor
open Go.RowKit
end Go.Proofs.YtdngkienloligaaGreatDoor

