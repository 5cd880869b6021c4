/-
  kerflaw14.LineTrails, walked.
-/
import Derived.Test.YtinfnfgflcjfmaaGreatDoorZ9a
import Derived.Test.YtinfnfgflcjfmaaGreatDoorZ8a
namespace Go.Proofs.YtinfnfgflcjfmaaGreatDoor
open Go.RowKit

set_option maxRecDepth 100000 in
set_option maxHeartbeats 4000000 in
theorem yLineTrails_any (s : ByteArray) (w : World) (hE : Env w) (_hs : s.size ≤ maxLen) :
    Calls Tryz.prog 3 #[.string s] w fun e w' => e = .returned (.bool true) ∧ Below w.heap.size w w' := by
  by_cases hl : 5000 < s.size
  · have HL := Lib.hid (ylive_any w hE)
    have hl2 : (5000 : Int) < (s.size : Int) := by omega
    clear hl
    go_enter Tryz.func3, Tryz.ntmps3
    go_wp2_with fail
    refine HL.out.mono ?_
    rintro e w1 ⟨rfl, hb⟩
    go_wp2
    go_ret
    exact ⟨rfl, hb⟩
  · have hl2 : ¬ (5000 : Int) < (s.size : Int) := by omega
    have H1 := Lib.hid (tTrail_any s w hE (by omega))
    have H2 := Lib.hid (fun W => xTrail_any s W (by omega))
    obtain ⟨n, hn⟩ : ∃ n, trailP gL s = n := ⟨_, rfl⟩
    rw [hn] at H1
    simp only [hn] at H2
    have e0 : ((n : Int) == (n : Int)) = true := by simp
    clear hl hn
    go_enter Tryz.func3, Tryz.ntmps3
    go_wp2_with fail
    refine H1.out.mono ?_
    rintro e w1 ⟨rfl, hb1⟩
    go_wp2_with fail
    refine (H2.out w1).mono ?_
    rintro e w2 ⟨rfl, hb2⟩
    have hb3 := below_two hb1 hb2
    have HL := Lib.hid (ylive_any w2 (hE.below hb3))
    go_wp2_with fail
    refine HL.out.mono ?_
    rintro e w3 ⟨rfl, hb4⟩
    go_wp2
    go_ret
    exact ⟨rfl, below_two hb3 hb4⟩
end Go.Proofs.YtinfnfgflcjfmaaGreatDoor

