/- -/
import Derived.Test.YtdngkienloligaaGreatDoorYSentenceWholePrH
namespace Go.Proofs.YtdngkienloligaaGreatDoor
open Go.RowKit
end Go.Proofs.YtdngkienloligaaGreatDoor

