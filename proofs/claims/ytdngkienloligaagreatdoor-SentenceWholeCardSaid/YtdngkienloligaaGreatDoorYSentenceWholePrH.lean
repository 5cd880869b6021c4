/- -/
import Derived.Test.YtdngkienloligaaGreatDoorYSentenceWholePrF
import Derived.Test.YtdngkienloligaaGreatDoorYSentenceWhole1a
namespace Go.Proofs.YtdngkienloligaaGreatDoor
open Go.RowKit
def OffX (B : Nat) (A : Option Addr) (b : Nat) : Prop := B ≤ b ∧ ∀ a, A = some a → b ≠ a.block
end Go.Proofs.YtdngkienloligaaGreatDoor

