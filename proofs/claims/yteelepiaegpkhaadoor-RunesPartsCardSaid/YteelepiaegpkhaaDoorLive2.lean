/-
  kerflaw02.live.
-/
import Derived.Test.YteelepiaegpkhaaDoorLive
namespace Go.Proofs.YteelepiaegpkhaaDoor
open Go.RowKit

theorem live_norm : normR [(99, 104), (97, 98), (5, 3)] = [(97, 104)] :=
  (mergeR_eq (l := [(99, 104), (97, 98), (5, 3)]) (s := [(97, 98), (99, 104)]) (List.Perm.swap _ _ _) (by unfold Rise; simp)).symm
theorem live_norm2 : normR [(97, 104)] = [(97, 104)] := (mergeR_eq (l := [(97, 104)]) (s := [(97, 104)]) (List.Perm.refl _) (by unfold Rise; simp)).symm
theorem live_not : notR [(97, 104)] = [(0, 96), (105, 1114111)] := by rw [notR, live_norm2]; decide
theorem live_at : atR [(97, 104)] 7 = (104, true) := by rw [atR, live_norm2]; decide
theorem live_parse : parseP ⟨#[39, 97, 39, 45, 39, 104, 39, 32, 85, 43, 48, 48, 52, 49]⟩ = .ok [(97, 104), (65, 65)] := by kernel_rfl
theorem live_parse2 : normR [(97, 104), (65, 65)] = [(65, 65), (97, 104)] := (mergeR_eq (l := [(97, 104), (65, 65)]) (s := [(65, 65), (97, 104)]) (List.Perm.swap _ _ _) (by unfold Rise; simp)).symm
theorem live_bad : parseP ⟨#[39, 255, 39]⟩ = .error (23, 1) := by kernel_rfl
theorem live_keep : keepP ⟨#[97, 255, 122]⟩ [(97, 104)] = [97] := by kernel_rfl

set_option maxRecDepth 100000 in
set_option maxHeartbeats 1000000 in
theorem klive_any (w : World) (hT : Tabs w) : Calls Tryd.prog 11 #[] w fun e w' => e = .returned (.bool true) ∧ RowKit.Below w.heap.size w w' := by
  go_enter Tryd.func11, Tryd.ntmps11
  have hb0 : RowKit.Below w.heap.size w (w.alloc (.cells #[.int .i32 99, .int .i32 104, .int .i32 97, .int .i32 98, .int .i32 5, .int .i32 3] 37)) := (RowKit.Below.refl _ _).alloc (Nat.le_refl _) _
  have hA0 : Rd (w.alloc (.cells #[.int .i32 99, .int .i32 104, .int .i32 97, .int .i32 98, .int .i32 5, .int .i32 3] 37)) 2 (some ⟨w.heap.size, 0, none⟩) ([(99, 104), (97, 98), (5, 3)].map encR) := Rd.blk (Blk.new w 37 _) rfl (encR_len _)
  go_wp2_with fail
  refine (rNorm_any (some ⟨w.heap.size, 0, none⟩) 3 3 [(99, 104), (97, 98), (5, 3)] _ hA0 rfl (by omega)).mono ?_
  rw [live_norm]
  rintro e w1 ⟨A1, n1, c1, rfl, ho1, hb1⟩
  obtain rfl : n1 = 1 := by have := ho1.len; simpa using this.symm
  obtain ⟨g1, rfl, _, _⟩ := ho1.form (by omega)
  have hA1 := ho1.rd (by omega)
  have hB1 := below_two hb0 hb1
  clear hb0 hA0 ho1 hb1
  go_wp2_with fail
  refine (rNot_any _ 1 c1 [(97, 104)] _ hA1 rfl (by omega)).mono ?_
  rw [live_not]
  rintro e w2 ⟨A2, n2, c2, rfl, ho2, hb2⟩
  obtain rfl : n2 = 2 := by have := ho2.len; simpa using this.symm
  obtain ⟨g2, rfl, _, _⟩ := ho2.form (by omega)
  have hA2 := ho2.rd (by omega)
  have hA1' := hA1.below hb2
  clear hA1
  have hA1 := hA1'
  clear hA1'
  have hB2 := below_two hB1 hb2
  clear hB1 hb2 ho2
  go_wp2_with fail
  refine (rParse_any ⟨#[39, 97, 39, 45, 39, 104, 39, 32, 85, 43, 48, 48, 52, 49]⟩ _ (hT.below hB2) (by decide)).mono ?_
  rw [live_parse]
  rintro e w3 ⟨hb3, A3, n3, c3, rfl, ho3⟩
  rw [live_parse2] at ho3
  obtain rfl : n3 = 2 := by have := ho3.len; simpa using this.symm
  have hA1 := hA1.below hb3
  have hA2 := hA2.below hb3
  have hB3 := below_two hB2 hb3
  clear hB2 hb3 ho3
  go_wp2_with fail
  refine (rParse_any ⟨#[39, 255, 39]⟩ _ (hT.below hB3) (by decide)).mono ?_
  rw [live_bad]
  rintro e w4 ⟨hb4, he⟩
  obtain rfl : e = _ := he
  have hA1 := hA1.below hb4
  have hA2 := hA2.below hb4
  have hB4 := below_two hB3 hb4
  clear hB3 hb4
  go_wp2_with fail
  refine (rAt_any _ 1 c1 [(97, 104)] 7 _ hA1 rfl (by omega) (by omega)).mono ?_
  rw [live_at]
  rintro e w5 ⟨rfl, hb5⟩
  have hA1 := hA1.below hb5
  have hA2 := hA2.below hb5
  have hB5 := below_two hB4 hb5
  clear hB4 hb5
  obtain ⟨b1, o1, lo1, hi1, e1, Hx1, p1, p2⟩ := hA1.atR (k := 0) (by simp)
  cases e1
  have := Hx1.out
  cases this
  obtain ⟨b2, o2, lo2, hi2, e2, Hx2, q1, q2⟩ := hA2.atR (k := 1) (by simp)
  cases e2
  have := Hx2.out
  cases this
  clear Hx1 Hx2
  have heq := eqlR 97 104 97 104
  rw [eqRB_true rfl] at heq
  have hgd := fun (w : World) => guardR .eql (.tmp 39) (.tmp 40) #[.int .i32 97, .int .i32 104] #[.int .i32 97, .int .i32 104] w
  simp only [Nat.zero_mul, Nat.zero_add, Nat.one_mul] at p1 p2 q1 q2
  go_wp2_with fail
  refine (rKeep_any ⟨#[97, 255, 122]⟩ _ 1 c1 [(97, 104)] _ hA1 rfl (by omega) (by decide)).mono ?_
  rw [live_keep]
  rintro e w6 ⟨rfl, hb6⟩
  have hB6 := below_two hB5 hb6
  clear hB5 hb6 p1 p2 q1 q2
  go_wp2_with fail
  refine (knum_any 0 _).mono ?_
  rintro e w7 ⟨rfl, rfl⟩
  go_wp2_with fail
  refine (knum_any 23 _).mono ?_
  rintro e w7 ⟨rfl, rfl⟩
  go_wp2
  go_ret
  exact ⟨rfl, hB6⟩
end Go.Proofs.YteelepiaegpkhaaDoor
