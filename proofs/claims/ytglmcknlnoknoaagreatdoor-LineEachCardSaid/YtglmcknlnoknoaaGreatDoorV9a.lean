/- -/
import Derived.Test.YtglmcknlnoknoaaGreatDoorVZbD
import Derived.Test.YtglmcknlnoknoaaGreatDoorV0b
import Derived.Test.YtglmcknlnoknoaaGreatDoorV7a
import Derived.Test.YtglmcknlnoknoaaGreatDoorV6a
namespace Go.Proofs.YtglmcknlnoknoaaGreatDoor
set_option maxRecDepth 100000
set_option maxHeartbeats 40000000
section
open Go.RowKit
def okRu (l : List RuleP) : Bool:=l.all fun r=>goodP 64 r.left && goodP 64 r.right && decide (sizeP r.left≤2048) && decide (sizeP r.right≤2048)
theorem okRu_spec {l : List RuleP} (h : okRu l = true) : ∀ r ∈ l,RuleOk r:=fun r hr=>by
 unfold okRu at h
 rw [List.all_eq_true] at h
 have:=h r hr
 simp only [Bool.and_eq_true,decide_eq_true_iff] at this
 exact ⟨this.1.1.1,this.1.1.2,this.1.2,this.2⟩
end
end Go.Proofs.YtglmcknlnoknoaaGreatDoor
