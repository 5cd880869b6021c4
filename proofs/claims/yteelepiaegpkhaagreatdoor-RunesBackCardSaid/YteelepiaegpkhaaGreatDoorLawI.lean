/-
  kerflaw02.RunesBack, walked.
-/
import Derived.Test.YteelepiaegpkhaaGreatDoorSl
import Derived.Test.YteelepiaegpkhaaGreatDoorPrint
import Derived.Test.YteelepiaegpkhaaGreatDoorPrintS
namespace Go.Proofs.YteelepiaegpkhaaGreatDoor
open Go.RowKit

theorem mstep_len (o : List (Int × Int)) (x : Int × Int) : (mstep o x).length ≤ o.length + 1 := by
  rcases snoc_cases o with rfl | ⟨q, y, rfl⟩
  · simp [mstep]
  · rw [mstep_snoc]; split <;> simp
theorem mergeR_len (s o : List (Int × Int)) : (s.foldl mstep o).length ≤ o.length + s.length := by
  induction s generalizing o with
  | nil => simp
  | cons x s ih => rw [List.foldl_cons]; have := ih (mstep o x); have := mstep_len o x; simp only [List.length_cons]; omega
theorem normR_le (l : List (Int × Int)) : (normR l).length ≤ l.length := by
  have h := mergeR_len ((keepR l).mergeSort fun a b => decide (a.1 ≤ b.1)) []
  have h2 : (keepR l).length ≤ l.length := by unfold keepR; refine Nat.le_trans (List.length_filter_le _ _) ?_; simp
  unfold normR mergeR
  rw [List.length_mergeSort] at h
  simp only [List.length_nil] at h; omega

set_option maxRecDepth 100000 in
set_option maxHeartbeats 2000000 in
theorem kRunesBack_any (A : Option Addr) (n c : Nat) (l : List (Int × Int)) (w : World) (hT : Tabs w) (hTB : TabB w) (hA : Rd w 2 A (l.map encR)) (ha : l.length = n) (hn : n ≤ maxLen) :
    Calls Tryz.prog 3 #[.slice A n c] w fun e w' => e = .returned (.bool true) ∧ RowKit.Below w.heap.size w w' := by
  unfold maxLen at hn
  by_cases h1 : 1500 < n
  · clear hA ha
    go_enter Tryz.func3, Tryz.ntmps3
    go_wp2_with fail
    refine (klive_any _ hT).mono ?_
    rintro e wz ⟨rfl, hb⟩
    go_wp2
    go_ret
    exact ⟨rfl, hb⟩
  have hn6 : n ≤ 1500 := by omega
  clear h1 hn
  have ka : Sl w A n l := ⟨hA, ha, by omega⟩
  clear hA ha
  have HB : RowKit.Below w.heap.size w w := RowKit.Below.refl _ _
  obtain ⟨S, hS⟩ : ∃ S : ByteArray, (⟨(printP l).toArray⟩ : ByteArray) = S := ⟨_, rfl⟩
  have hSz : S.size ≤ 1000000 := by
    rw [← hS, ← size_data]
    have h1 := printL_len (normR l)
    have h2 := normR_le l
    have h3 := ka.len
    simp only [printP]; omega
  have HP := Lib.hid (show parseP S = .ok (normR l) by rw [← hS]; exact parse_printP l)
  have HS := Lib.hid hS
  clear hS
  go_enter Tryz.func3, Tryz.ntmps3
  go_wp2_with fail
  refine (slOwn ka).mono ?_
  rintro e w1 ⟨g1, c1, rfl, kx, hb, hg1⟩
  clear hg1
  replace ka := ka.below hb
  replace HB := below_two HB hb
  clear hb
  have hTB2 := hTB.below HB
  go_wp2_with fail
  refine (rPrint_any _ n c1 l _ hTB2 kx.sl.rd kx.sl.len (by omega)).mono ?_
  rintro e w2 ⟨rfl, hb⟩
  rw [HS.out]
  replace ka := ka.below hb
  replace kx := kx.below hb
  replace HB := below_two HB hb
  clear hb
  clear hTB2
  have hT2 := hT.below HB
  go_wp2_with fail
  refine (rParse_any S _ hT2 hSz).mono ?_
  rintro e w3 ⟨hb, hE⟩
  rw [HP.out] at hE
  obtain ⟨A3, n3, c3, rfl, ho⟩ := hE
  rw [normR_of_NF (normR_NF l)] at ho
  have kp := Sl.own ho (normR_NF l)
  clear ho hT2
  replace ka := ka.below hb
  replace kx := kx.below hb
  replace HB := below_two HB hb
  clear hb
  go_wp2_with fail
  refine (sPrint_any A n c l _ ka.rd ka.len (by omega)).mono ?_
  rintro e w4 ⟨rfl, hb⟩
  rw [HS.out]
  replace ka := ka.below hb
  replace kx := kx.below hb
  replace kp := kp.below hb
  replace HB := below_two HB hb
  clear hb
  go_wp2_with fail
  refine (knum_any _ _).mono ?_
  rintro e w5 ⟨rfl, rfl⟩
  go_wp2_with fail
  refine (slrNorm ka).mono ?_
  rintro e w6 ⟨A6, n6, c6, rfl, kn, hb⟩
  replace ka := ka.below hb
  replace kx := kx.below hb
  replace kp := kp.below hb
  replace HB := below_two HB hb
  clear hb
  go_wp2_with fail
  refine (slSame kp kn rfl).mono ?_
  rintro e w7 ⟨rfl, hb⟩
  replace ka := ka.below hb
  replace kx := kx.below hb
  replace kp := kp.below hb
  replace kn := kn.below hb
  replace HB := below_two HB hb
  clear hb
  go_wp2_with fail
  refine (slKept kx ka).mono ?_
  rintro e w8 ⟨rfl, hb⟩
  replace ka := ka.below hb
  replace kx := kx.below hb
  replace kp := kp.below hb
  replace kn := kn.below hb
  replace HB := below_two HB hb
  clear hb
  have hT2 := hT.below HB
  go_wp2_with fail
  refine (klive_any _ hT2).mono ?_
  rintro e wz ⟨rfl, hb⟩
  replace HB := below_two HB hb
  go_wp2
  go_ret
  exact ⟨rfl, HB⟩
end Go.Proofs.YteelepiaegpkhaaGreatDoor
