/- -/
import Derived.Laws.BitsAllLaws
import Derived.Laws.Bits
import Derived.Test.YtlfpdpbbkjnapaaGreatDoorYPlacesMove0a
import Derived.Test.YtlfpdpbbkjnapaaGreatDoorP0a
namespace Go.Proofs.YtlfpdpbbkjnapaaGreatDoor
set_option maxRecDepth 100000
set_option maxHeartbeats 40000000
section
open Go.RowKit
section
variable {g : Nat→Nat} {n : Nat}
end
theorem get_at (s : ByteArray) {p : Nat} (hp : p < s.size) : s.get! p = s[p]'hp:=by
 rw [← Lib.getD_get!',List.getD_eq_getElem?_getD,List.getElem?_eq_getElem (by rw [size_data];exact hp)];rfl
end
end Go.Proofs.YtlfpdpbbkjnapaaGreatDoor
