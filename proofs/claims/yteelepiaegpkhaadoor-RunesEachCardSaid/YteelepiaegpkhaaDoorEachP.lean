/-
  PLAIN: the runes that Each gives, by their numbers. No walk.
-/
import Derived.Test.YteelepiaegpkhaaDoorEach
namespace Go.Proofs.YteelepiaegpkhaaDoor

theorem spanR_len (lo : Int) (n : Nat) : (spanR lo n).length = n := by simp [spanR]
theorem spanR_get (lo : Int) {n k : Nat} (h : k < n) : (spanR lo n)[k]? = some (lo + (k : Int)) := by simp [spanR, h]
theorem eachL_len : ∀ {L : List (Int × Int)}, (∀ x ∈ L, x.1 ≤ x.2) → ((eachL L).length : Int) = cntR L
  | [], _ => rfl
  | x :: r, h => by
    have h1 := h x (by simp)
    have ih := eachL_len (L := r) (fun y hy => h y (by simp [hy]))
    unfold eachL at ih ⊢
    rw [List.flatMap_cons, List.length_append, spanR_len, cntR]
    omega
theorem eachL_get : ∀ {L : List (Int × Int)} (k : Nat), (∀ x ∈ L, x.1 ≤ x.2) → atGo L (k : Int) = match (eachL L)[k]? with | some v => (v, true) | none => (0, false)
  | [], k, _ => by simp [eachL, atGo]
  | x :: r, k, h => by
    have h1 := h x (by simp)
    have e : eachL (x :: r) = spanR x.1 (x.2 - x.1 + 1).toNat ++ eachL r := by unfold eachL; rw [List.flatMap_cons]
    rw [e, atGo_cons]
    split
    · rw [List.getElem?_append_left (by rw [spanR_len]; omega), spanR_get _ (by omega)]
    · rw [List.getElem?_append_right (by rw [spanR_len]; omega), spanR_len]
      have ih := eachL_get (L := r) (k - (x.2 - x.1 + 1).toNat) (fun y hy => h y (by simp [hy]))
      rw [← ih]
      congr 1
      omega
end Go.Proofs.YteelepiaegpkhaaDoor
