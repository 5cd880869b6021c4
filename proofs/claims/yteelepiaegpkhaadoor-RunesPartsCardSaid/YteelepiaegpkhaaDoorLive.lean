/-
  kerflaw02: num, own, kept.
-/
import Derived.Test.YteelepiaegpkhaaDoorSame
import Derived.Test.YteelepiaegpkhaaDoorRunV
import Derived.Test.YteelepiaegpkhaaDoorParse
namespace Go.Proofs.YteelepiaegpkhaaDoor
open Go.RowKit

theorem Rd.pre {w : World} {s : Nat} {A : Option Addr} {cs ds : List (List Value)} (h : Rd w s A (cs ++ ds)) : Rd w s A cs := fun hn => by
  obtain ⟨b, off, hA, hc⟩ := h (by simp [hn])
  exact ⟨b, off, hA, fun k j x u hx hu => hc k j x u (by rw [List.getElem?_append_left (List.getElem?_eq_some_iff.1 hx).1]; exact hx) hu⟩
theorem Rd.preR {w : World} {A : Option Addr} {l m : List (Int × Int)} (h : Rd w 2 A ((l ++ m).map encR)) : Rd w 2 A (l.map encR) := by
  rw [List.map_append] at h; exact h.pre

theorem Rd.blk {w : World} {g : Nat} {t : TypeId} {s : Nat} {xs : Array Value} {cs : List (List Value)} (h : Blk w g t xs) (hx : xs.toList = cs.flatten) (hs : ∀ x ∈ cs, x.length = s) : Rd w s (some ⟨g, 0, none⟩) cs := by
  intro _
  refine ⟨g, 0, rfl, fun k j x u hk hj => ?_⟩
  have h1 := flatten_get hs hk hj
  rw [← hx, Array.getElem?_toList] at h1
  rw [h.cell, show 0 + k * s + j = k * s + j by omega]; exact h1

theorem knum_any (n : Int) (w : World) : Calls Tryd.prog 15 #[.int .i64 n] w fun e w' => e = .returned (.int .i64 n) ∧ w = w' := by
  go_enter Tryd.func15, Tryd.ntmps15
  go_wp2
  go_ret
  exact ⟨rfl, rfl⟩

/-- What own lays behind a list. -/
def spare (l : List (Int × Int)) : List (Int × Int) := l ++ [(-9, 9)]
set_option maxRecDepth 100000 in
set_option maxHeartbeats 400000 in
theorem kown_any (A : Option Addr) (n c : Nat) (l : List (Int × Int)) (w : World) (hA : Rd w 2 A (l.map encR)) (hl : l.length = n) (hn : n ≤ 4000000) :
    Calls Tryd.prog 16 #[.slice A n c] w fun e w' => ∃ g c', e = .returned (.slice (some ⟨g, 0, none⟩) n c') ∧ Own w' w.heap.size 37 2 (some ⟨g, 0, none⟩) (n + 1) c' ((spare l).map encR) ∧ RowKit.Below w.heap.size w w' := by
  obtain ⟨i0, hi0, hz0, hz1, hz2⟩ := info_parts infoR
  have Hl := Lib.hid hl
  clear hl
  go_enter Tryd.func16, Tryd.ntmps16
  go_wp2_with (first
    | (at_builtin; refine wpList_app rfl (.tmp 3) (.tmp 4) _ rfl w.heap.size 37 i0 _ 2 8 Tryd.underlying23 hi0 hz0 hz1 hz2 rfl (by omega) (some ⟨w.heap.size, 0, none⟩) 0 0 [] rfl (Own.lit w w.heap.size 37 2 (Nat.le_refl _)) A n c (l.map encR) rfl (by simpa using Hl.out) (hA.alloc _) (encR_ok l) (by unfold maxLen; omega) (by omega) (by simp) ?_; intro A1 c1 w1 ho1 hg1 hA1; simp only [Nat.zero_add, List.nil_append] at ho1; have hb1 := below_app ((RowKit.Below.refl w.heap.size w).alloc (Nat.le_refl _) (.cells #[] 37)) hg1 (by simp) (fun a ha => by cases ha; exact Nat.le_refl _); clear hg1)
    | (at_builtin; refine wpList_app rfl (.tmp 5) (.tmp 7) _ rfl w.heap.size 37 i0 _ 2 8 Tryd.underlying23 hi0 hz0 hz1 hz2 rfl (by omega) A1 n c1 (l.map encR) rfl (ho1.alloc _) _ 1 1 [encR (-9, 9)] rfl rfl (Rd.newAt (by simp) rfl) (encR_ok [(-9, 9)]) (by unfold maxLen; omega) (by omega) (by have := hb1.size; simp; omega) ?_; intro A2 c2 w2 ho2 hg2 hA2; have hb2 := below_app (hb1.alloc hb1.size (.cells #[.int .i32 (-9), .int .i32 9] 37)) hg2 (by have := hb1.size; simp; omega) (fun a ha => (ho1.lt a ha).1); clear hg2; have hcap := ho2.cap; obtain ⟨g, rfl, hg1, hg3⟩ := ho2.form (by omega)))
  go_ret
  exact ⟨_, _, rfl, by rw [spare, List.map_append]; exact ho2, hb2⟩
theorem kown_rd {w : World} {base : Nat} {e : TypeId} {g n c : Nat} {l : List (Int × Int)} (h : Own w base e 2 (some ⟨g, 0, none⟩) (n + 1) c ((spare l).map encR)) : Rd w 2 (some ⟨g, 0, none⟩) (l.map encR) := Rd.preR (h.rd (by omega))

set_option maxRecDepth 100000 in
set_option maxHeartbeats 400000 in
theorem kkept_any (g n c m c2 : Nat) (A2 : Option Addr) (l : List (Int × Int)) (w : World) (hA : Rd w 2 (some ⟨g, 0, none⟩) ((spare l).map encR)) (hB : Rd w 2 A2 (l.map encR)) (hn : l.length = n) (hm : l.length = m) (hc : n + 1 ≤ c) (hn' : n ≤ 4000000) :
    Calls Tryd.prog 21 #[.slice (some ⟨g, 0, none⟩) n c, .slice A2 m c2] w fun e w' => e = .returned (.bool true) ∧ ∃ q, w' = w.drewN q := by
  have hA1 := Rd.preR hA
  obtain ⟨b, off, lo, hi, hbo, Hx, hx1, hx2⟩ := hA.atR (k := n) (by unfold spare; simp; omega)
  cases hbo
  have Hxx : Hid (lo = -9 ∧ hi = 9) := Lib.hid (by
    have := Hx.out
    unfold spare at this
    rw [List.getElem?_append_right (by omega), show n - l.length = 0 by omega] at this
    simp at this; exact ⟨this.1.symm, this.2.symm⟩)
  obtain ⟨rfl, rfl⟩ := Hxx.out
  have Hn := Lib.hid hn
  have Hm := Lib.hid hm
  clear hn hm Hx Hxx

  have he : eqRB (-9) 9 (-9) 9 = true := eqRB_true rfl
  simp only [Nat.zero_add] at hx1 hx2
  go_enter Tryd.func21, Tryd.ntmps21
  go_wp2_with fail
  refine (sSame_any _ A2 n c m c2 l l w hA1 hB Hn.out Hm.out (by unfold maxLen; omega) (by unfold maxLen; have := Hm.out; have := Hn.out; omega)).mono ?_
  rintro e w1 ⟨rfl, q, rfl⟩
  rw [show decide (l = l) = true from decide_eq_true rfl]
  have heq := eqlR (-9) 9 (-9) 9
  rw [he] at heq
  have hgd := fun (w : World) => guardR .eql (.tmp 17) (.tmp 18) #[.int .i32 (-9), .int .i32 9] #[.int .i32 (-9), .int .i32 9] w
  go_wp2
  go_ret
  exact ⟨rfl, q, rfl⟩
end Go.Proofs.YteelepiaegpkhaaDoor
