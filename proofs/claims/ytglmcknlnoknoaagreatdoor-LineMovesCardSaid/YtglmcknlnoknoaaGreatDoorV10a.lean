/- -/
import Derived.Test.YtglmcknlnoknoaaGreatDoorVTzA
import Derived.Test.YtglmcknlnoknoaaGreatDoorV5b
namespace Go.Proofs.YtglmcknlnoknoaaGreatDoor
set_option maxRecDepth 100000
set_option maxHeartbeats 40000000
section
open Go.RowKit
theorem lChances_len (s : ByteArray) : (lChances gL s).length≤s.size+1:=by rw [← chD_end];exact chD_len s _
end
end Go.Proofs.YtglmcknlnoknoaaGreatDoor
