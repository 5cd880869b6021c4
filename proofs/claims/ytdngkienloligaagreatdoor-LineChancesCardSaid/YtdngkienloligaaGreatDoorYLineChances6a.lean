/- -/
import Derived.Test.YtdngkienloligaaGreatDoorYLineChancesZbD
import Derived.Test.YtdngkienloligaaGreatDoorYLineChances0b
import Derived.Test.YtdngkienloligaaGreatDoorYLineChances5a
import Derived.Test.YtdngkienloligaaGreatDoorYLineChances0a
import Derived.Test.YtdngkienloligaaGreatDoorYLineChances1a
namespace Go.Proofs.YtdngkienloligaaGreatDoor
open Go.RowKit
def okRu (l : List RuleP) : Bool:=l.all fun r=>goodP 64 r.left && goodP 64 r.right && decide (sizeP r.left≤2048) && decide (sizeP r.right≤2048)
theorem okRu_spec {l : List RuleP} (h : okRu l = true) : ∀ r ∈ l,RuleOk r:=fun r hr=>by
 unfold okRu at h
 rw [List.all_eq_true] at h
 have:=h r hr
 simp only [Bool.and_eq_true,decide_eq_true_iff] at this
 exact ⟨this.1.1.1,this.1.1.2,this.1.2,this.2⟩
end Go.Proofs.YtdngkienloligaaGreatDoor
