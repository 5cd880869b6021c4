/-
  runes.Trim: without what is in a set, at both ends.
-/
import Derived.Test.YteelepiaegpkhaaGreatDoorRunU
import Derived.RegionTactic
import Derived.BigRegion
import Derived.RegionCalls
import Derived.Deep.RegionHeld3
import Derived.Deep.DeepCutAuto
import Derived.RegionDies
namespace Go.Proofs.YteelepiaegpkhaaGreatDoor
open Go.RowKit Go.Shelf
attribute [local go_sem] Oper.semAt_some

theorem runs_head (h : Int → Bool) (z : Nat) : ∀ (L : List (Nat × Nat × Nat)), (runsGo h z none L).head?.map (·.1) = (L.filter fun x => h x.1).head?.map (·.2.1) ∧ ∀ a, (runsGo h z (some a) L).head?.map (·.1) = some a
  | [] => ⟨rfl, fun _ => rfl⟩
  | x :: L => by
    obtain ⟨ih1, ih2⟩ := runs_head h z L
    cases hh : h x.1 with
    | true => exact ⟨by rw [runsGo, if_pos hh, ih2]; simp [hh], fun a => by rw [runsGo, if_pos hh, ih2]⟩
    | false => exact ⟨by rw [runsGo, if_neg (by rw [hh]; exact Bool.false_ne_true), ih1]; simp [hh], fun a => by rw [runsGo, if_neg (by rw [hh]; exact Bool.false_ne_true)]; rfl⟩
theorem getLast?_cons' {α : Type} (x : α) (l : List α) : (x :: l).getLast? = some (l.getLast?.getD x) := by
  cases l with
  | nil => rfl
  | cons y l => rw [List.getLast?_cons_cons, List.getLast?_eq_some_getLast (by simp)]; rfl
theorem runs_last (h : Int → Bool) (s : ByteArray) : ∀ (f p : Nat), s.size ≤ p + f → p ≤ s.size →
    (runsGo h s.size none (runesGo s f p)).getLast?.map (·.2) = ((runesGo s f p).filter fun x => h x.1).getLast?.map (·.2.2) ∧
    ∀ a, (runsGo h s.size (some a) (runesGo s f p)).getLast?.map (·.2) = some ((((runesGo s f p).filter fun x => h x.1).getLast?.map (·.2.2)).getD p)
  | 0, p, h1, h2 => by
    obtain rfl : p = s.size := by omega
    exact ⟨rfl, fun _ => rfl⟩
  | f + 1, p, h1, h2 => by
    by_cases hp : p < s.size
    · have hd := dec_bd s p hp
      obtain ⟨ih1, ih2⟩ := runs_last h s f (p + (Utf8.decode s p).2) (by omega) (by omega)
      rw [runesGo, if_pos hp]
      generalize Utf8.decode s p = d at *
      obtain ⟨R, W⟩ := d
      simp only at *
      generalize runesGo s f (p + W) = L at *
      cases hh : h (R : Int) with
      | true =>
        have e1 : ((R, p, p + W) :: L).filter (fun x => h x.1) = (R, p, p + W) :: L.filter fun x => h x.1 := by simp [hh]
        have key : ((((R, p, p + W) :: L).filter fun x => h x.1).getLast?.map (·.2.2)) = some (((L.filter fun x => h x.1).getLast?.map (·.2.2)).getD (p + W)) := by
          rw [e1, getLast?_cons']
          cases (L.filter fun x => h x.1).getLast? <;> rfl
        refine ⟨?_, fun a => ?_⟩
        · rw [runsGo, if_pos hh, ih2, key]
        · rw [runsGo, if_pos hh, ih2, key]; rfl
      | false =>
        have e1 : ((R, p, p + W) :: L).filter (fun x => h x.1) = L.filter fun x => h x.1 := by simp [hh]
        refine ⟨?_, fun a => ?_⟩
        · rw [runsGo, if_neg (by rw [hh]; exact Bool.false_ne_true), ih1, e1]
        · rw [runsGo, if_neg (by rw [hh]; exact Bool.false_ne_true), e1, ← ih1, getLast?_cons']
          cases (runsGo h s.size none L).getLast? <;> rfl
    · obtain rfl : p = s.size := by omega
      rw [runesGo_end (Nat.le_refl _)]
      exact ⟨rfl, fun _ => rfl⟩
def frstV {s : ByteArray} (pre : List (Span s)) : Nat := (pre.head?.map (·.1.1)).getD s.size
def lastV {s : ByteArray} (pre : List (Span s)) : Nat := (pre.getLast?.map (·.1.2)).getD s.size
theorem hasB_notR (l : List (Int × Int)) (r : Nat) (hr : r ≤ 1114111) : hasB (notR l) r = !hasB l r := by
  cases hh : hasB l r with
  | true => exact hasB_false (fun h => ((hasP_notR l r).1 h).2.2 ((hasB_iff l r).1 hh))
  | false => exact hasB_true ((hasP_notR l r).2 ⟨by omega, by omega, fun h => by rw [hasB_true h] at hh; cases hh⟩)
theorem filter_notR (s : ByteArray) (l : List (Int × Int)) : ((runesP s).filter fun x => hasB (notR l) x.1) = (runesP s).filter fun x => !hasB l x.1 :=
  List.filter_congr fun x hx => hasB_notR l x.1 (runesP_bd x hx).2.2.2
theorem trim_runs (s : ByteArray) (l : List (Int × Int)) (ys : List (Span s)) (h : ys.map (·.1) = runsP s (normR (notR l))) : frstV ys = (trimP s l).1 ∧ lastV ys = (trimP s l).2 := by
  rw [runsP_normR] at h
  have h1 := (runs_head (hasB (notR l)) s.size (runesP s)).1
  have h2 := (runs_last (hasB (notR l)) s s.size 0 (by omega) (by omega)).1
  change (runsP s (notR l)).head?.map _ = _ at h1
  change (runsP s (notR l)).getLast?.map _ = ((runesP s).filter _).getLast?.map _ at h2
  rw [← h, filter_notR] at h1 h2
  rw [List.head?_map, Option.map_map] at h1
  rw [List.getLast?_map, Option.map_map] at h2
  unfold frstV lastV trimP
  exact ⟨congrArg (·.getD s.size) h1, congrArg (·.getD s.size) h2⟩
theorem frst_snoc {s : ByteArray} (pre : List (Span s)) (x : Span s) : frstV (pre ++ [x]) = if pre = [] then x.1.1 else frstV pre := by
  cases pre with
  | nil => rfl
  | cons y r => rfl
theorem last_snoc {s : ByteArray} (pre : List (Span s)) (x : Span s) : lastV (pre ++ [x]) = x.1.2 := by unfold lastV; simp
theorem frst_lt {s : ByteArray} (pre : List (Span s)) (h : pre ≠ []) : frstV pre < s.size := by
  cases pre with
  | nil => exact absurd rfl h
  | cons y r => have := y.2; show y.1.1 < s.size; omega

end Go.Proofs.YteelepiaegpkhaaGreatDoor
