/- -/
import Derived.Test.YtdngkienloligaaGreatDoorYSentenceWholePrI
import Derived.Test.YtdngkienloligaaGreatDoorYSentenceWhole1a
namespace Go.Proofs.YtdngkienloligaaGreatDoor
open Go.RowKit
end Go.Proofs.YtdngkienloligaaGreatDoor

