/- -/
import Derived.Test.YtdnkignhenkamaaGreatDoorS7a
namespace Go.Proofs.YtdnkignhenkamaaGreatDoor
open Go.RowKit
theorem nSentNames_any (w : World) (hE : Env w) : Calls Tryz.prog 8 #[] w fun e w' => e = .returned (.bool true) ∧ Below w.heap.size w w' := by
  have HLv := Lib.hid (nlive_any w hE)
  go_enter Tryz.func8, Tryz.ntmps8
  go_wp2_with fail
  refine HLv.out.mono ?_
  rintro e w1 ⟨rfl, hb⟩
  go_wp2
  go_ret
  exact ⟨rfl, hb⟩
end Go.Proofs.YtdnkignhenkamaaGreatDoor

