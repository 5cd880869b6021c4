/- -/
import Derived.ScopeJumps
import Derived.WalkMore
import Derived.Test.YtdngkienloligaaGreatDoorYSentenceWhole0a
namespace Go.Proofs.YtdngkienloligaaGreatDoor
open Go.RowKit
theorem Rd.atP' {w : World} {A : Option Addr} {l : List Nat} {k : Nat} {x : Nat} (h : Rd w 1 A (l.map encN)) (hk : l[k]? = some x) : ∃ b off, A = some ⟨b, off, none⟩ ∧ w.cell? ⟨b, off + k, none⟩ = some (.int .i64 (x : Nat)) := by
  obtain ⟨b, off, rfl, hc⟩ := h (by intro e; cases l with | nil => simp at hk | cons _ _ => simp at e)
  have h0 := hc k 0 (encN x) (.int .i64 (x : Nat)) (by simp [hk]) rfl
  exact ⟨b, off, rfl, by simpa using h0⟩
end Go.Proofs.YtdngkienloligaaGreatDoor

