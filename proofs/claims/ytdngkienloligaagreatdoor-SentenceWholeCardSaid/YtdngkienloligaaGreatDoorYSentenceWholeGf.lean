/- -/
import Derived.Test.YtdngkienloligaaGreatDoorYSentenceWhole1a
import Derived.Test.YtdngkienloligaaGreatDoorYSentenceWhole0a
namespace Go.Proofs.YtdngkienloligaaGreatDoor
open Go.RowKit Go.Shelf
attribute [local go_sem] Oper.semAt_some
def encP2 (x : Nat × Nat) : Array Value := #[.int .i64 (x.1 : Nat), .int .i64 (x.2 : Nat)]
def encCl (s : ByteArray) (x : Nat × Nat) : Array Value := encP2 (clP s x)
def gatP (s : ByteArray) (pre : List (Nat × Nat)) : List UInt8 := pre.flatMap fun x => (s.extract (clP s x).1 (clP s x).2).data.toList
theorem gatP_snoc (s : ByteArray) (pre : List (Nat × Nat)) (x : Nat × Nat) : gatP s (pre ++ [x]) = gatP s pre ++ (s.extract (clP s x).1 (clP s x).2).data.toList := by
  unfold gatP; rw [List.flatMap_append]; simp
theorem gatP_len (s : ByteArray) : ∀ (pre : List (Nat × Nat)), (gatP s pre).length ≤ pre.length * s.size
  | [] => by simp [gatP]
  | x :: r => by
    have ih := gatP_len s r
    have hb := clP_le s x
    unfold gatP at ih ⊢
    rw [List.flatMap_cons, List.length_append, extract_len s hb.2, List.length_cons, Nat.add_mul]
    omega
end Go.Proofs.YtdngkienloligaaGreatDoor

