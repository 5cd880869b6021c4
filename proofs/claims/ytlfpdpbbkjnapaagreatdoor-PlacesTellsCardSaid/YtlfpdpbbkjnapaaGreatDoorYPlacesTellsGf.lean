/- -/
import Derived.Test.YtlfpdpbbkjnapaaGreatDoorYPlacesTells1a
import Derived.Test.YtlfpdpbbkjnapaaGreatDoorYPlacesTells0b
import Derived.Test.YtlfpdpbbkjnapaaGreatDoorYPlacesTells0a
namespace Go.Proofs.YtlfpdpbbkjnapaaGreatDoor
set_option maxRecDepth 100000
set_option maxHeartbeats 40000000
section
open Go.RowKit Go.Shelf
attribute [local go_sem] Oper.semAt_some
def encP2 (x : Nat × Nat) : Array Value:=#[.int .i64 (x.1 : Nat),.int .i64 (x.2 : Nat)]
def encCl (s : ByteArray) (x : Nat × Nat) : Array Value:=encP2 (clP s x)
end
end Go.Proofs.YtlfpdpbbkjnapaaGreatDoor
