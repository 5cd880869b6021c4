/- -/
import Derived.Test.YtglmcknlnoknoaaGreatDoorYGraphemeSafe0a
namespace Go.Proofs.YtglmcknlnoknoaaGreatDoor
open Go.RowKit
def valPt (v : Pv) : Value:=.agg #[.int .i64 (v.1 : Int),.slice v.2.1.1 v.2.1.2.1 v.2.1.2.2,.slice v.2.2.1 v.2.2.2.1 v.2.2.2.2]
end Go.Proofs.YtglmcknlnoknoaaGreatDoor
