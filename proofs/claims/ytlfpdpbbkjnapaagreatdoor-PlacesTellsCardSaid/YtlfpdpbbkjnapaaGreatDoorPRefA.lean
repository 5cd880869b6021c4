/- -/
import Derived.Deep.DeepMust
import Derived.Test.YtlfpdpbbkjnapaaGreatDoorP0a
namespace Go.Proofs.YtlfpdpbbkjnapaaGreatDoor
set_option maxRecDepth 100000
set_option maxHeartbeats 40000000
section
open Go.RowKit
theorem keepR_snoc (l : List (Int × Int)) (k : Nat) (x : Int × Int) (h : l[k]? = some x) : keepR (l.take (k+1)) = keepR (l.take k)++if max x.1 0≤min x.2 1114111 then [(max x.1 0,min x.2 1114111)] else []:=by
 rw [List.take_add_one,h]
 simp only [keepR,Option.toList_some,List.map_append,List.map_cons,List.map_nil,List.filter_append]
 congr 1
 by_cases hc : max x.1 0≤min x.2 1114111 <;> simp only [List.filter_cons,List.filter_nil,clampR,hc,decide_true,decide_false,if_true,if_false] <;> rfl
end
end Go.Proofs.YtlfpdpbbkjnapaaGreatDoor
