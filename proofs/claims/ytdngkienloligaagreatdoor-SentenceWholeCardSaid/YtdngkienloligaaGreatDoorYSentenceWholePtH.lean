/- -/
import Derived.Test.YtdngkienloligaaGreatDoorYSentenceWhole0a
namespace Go.Proofs.YtdngkienloligaaGreatDoor
open Go.RowKit
end Go.Proofs.YtdngkienloligaaGreatDoor

