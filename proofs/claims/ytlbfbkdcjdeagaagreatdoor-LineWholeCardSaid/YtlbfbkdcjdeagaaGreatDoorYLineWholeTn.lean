/-
  line: number, walked. Printed by gen_tcut.py.
-/
import Derived.Deep.CutRange
import Derived.Test.YtlbfbkdcjdeagaaGreatDoorYLineWhole0a
namespace Go.Proofs.YtlbfbkdcjdeagaaGreatDoor
open Go.RowKit

set_option maxRecDepth 100000 in
set_option maxHeartbeats 8000000 in
theorem tnumber_any (A B : Option Addr) (na ca n cb : Nat) (c : List Int) (i : Nat) (w : World) (hB : Rd w 1 B (c.map encZ)) (hl : c.length = n) (hi : i ≤ n) (hn : n ≤ 3000000) :
    Calls Tryz.prog 148 #[.agg #[.slice A na ca, .slice B n cb], .int .i64 i] w fun e w' => e = .returned (.bool (lNum c i)) ∧ Below w.heap.size w w' := by
  have hBz : Below w.heap.size w (w.alloc (.cells #[.slice A na ca, .slice B n cb] 87)) := (Below.refl _ _).alloc (Nat.le_refl _) _
  have hK := Blk.new w 87 #[.slice A na ca, .slice B n cb]
  have k0 := hK.cell 0
  have k1 := hK.cell 1
  simp only [List.getElem?_toArray, List.getElem?_cons_zero, List.getElem?_cons_succ] at k0 k1
  have HLs := Lib.hid (fun (j : Nat) W (h : Below w.heap.size w W) (hj : j ≤ n) => tlast_any A B na ca n cb c j W (hB.below h) hl hj (by omega))
  have HPs := Lib.hid (fun (j : Nat) (k : Int) W (h : Below w.heap.size w W) (hj : j ≤ n) => tpast_any A B na ca n cb c j k W (hB.below h) hl hj (by omega))
  obtain ⟨n1, H1⟩ : ∃ x, Hid (lPast c 8 i = x) := ⟨_, Lib.hid rfl⟩
  have g1 : n1 ≤ i := by have := lPast_le c 8 i; have := H1.out; omega
  obtain ⟨y1, Y1⟩ : ∃ x, Hid (lLast c n1 = x) := ⟨_, Lib.hid rfl⟩
  obtain ⟨n2, H2⟩ : ∃ x, Hid ((if [11, 10].contains y1 then lPast c 8 (n1 - 1) else n1) = x) := ⟨_, Lib.hid rfl⟩
  obtain ⟨y2, Y2⟩ : ∃ x, Hid (lLast c n2 = x) := ⟨_, Lib.hid rfl⟩
  obtain ⟨n3, H3⟩ : ∃ x, Hid ((if [14, 15].contains y2 then lPast c 8 (n2 - 1) else n2) = x) := ⟨_, Lib.hid rfl⟩
  obtain ⟨y3, Y3⟩ : ∃ x, Hid (lLast c n3 = x) := ⟨_, Lib.hid rfl⟩
  have HW : Hid (lNum c i = (y3 == 20)) := Lib.hid (by
    rw [← Y3.out, ← H3.out, ← Y2.out, ← H2.out, ← Y1.out, ← H1.out]; rfl)
  have g2 : n2 ≤ n1 := by
    rw [← H2.out]
    have := lPast_le c 8 (n1 - 1)
    split
    · omega
    · omega
  have g3 : n3 ≤ n2 := by
    rw [← H3.out]
    have := lPast_le c 8 (n2 - 1)
    split
    · omega
    · omega
  have P1 : Hid ([11, 10].contains y1 = true → 0 < n1) := Lib.hid (fun h => lLast_pos Y1.out (by simp at h; omega))
  have P2 : Hid ([14, 15].contains y2 = true → 0 < n2) := Lib.hid (fun h => lLast_pos Y2.out (by simp at h; omega))
  have hb := hBz
  clear hBz hB hl hK
  go_enter Tryz.func148, Tryz.ntmps148
  go_wp2_with fail
  refine (HPs.out _ _ _ hb (by omega)).mono ?_
  rw [H1.out]
  rintro e wn ⟨rfl, hz⟩
  replace k0 := cell_keep k0 hz
  replace k1 := cell_keep k1 hz
  replace hb := below_step hb hz hb.size
  clear hz
  go_wp2_with fail
  refine (HLs.out _ _ hb (by omega)).mono ?_
  rw [Y1.out]
  rintro e wn ⟨rfl, hz⟩
  replace k0 := cell_keep k0 hz
  replace k1 := cell_keep k1 hz
  replace hb := below_step hb hz hb.size
  clear hz
  cases m1 : ([11, 10].contains y1) with
  | true =>
    go_wp2_with fail
    refine (tamong_b _ [11, 10] 2 _ _ rfl rfl (by decide)).mono ?_
    rw [m1]
    rintro e wn ⟨rfl, hz⟩
    replace k0 := cell_keep k0 hz
    replace k1 := cell_keep k1 hz
    replace hb := below_step hb hz hb.size
    clear hz
    have hp := P1.out m1
    rw [m1, if_pos rfl] at H2
    obtain ⟨r1, rfl⟩ : ∃ r, n1 = r + 1 := ⟨n1 - 1, by omega⟩
    rw [Nat.add_sub_cancel] at H2
    have e1 : ((r1 + 1 : Nat) : Int) - 1 = (r1 : Int) := by omega
    go_wp2_with fail
    refine (HPs.out _ _ _ hb (by omega)).mono ?_
    rw [H2.out]
    rintro e wn ⟨rfl, hz⟩
    replace k0 := cell_keep k0 hz
    replace k1 := cell_keep k1 hz
    replace hb := below_step hb hz hb.size
    clear hz
    go_wp2_with fail
    refine (HLs.out _ _ hb (by omega)).mono ?_
    rw [Y2.out]
    rintro e wn ⟨rfl, hz⟩
    replace k0 := cell_keep k0 hz
    replace k1 := cell_keep k1 hz
    replace hb := below_step hb hz hb.size
    clear hz
    cases m2 : ([14, 15].contains y2) with
    | true =>
      go_wp2_with fail
      refine (tamong_b _ [14, 15] 2 _ _ rfl rfl (by decide)).mono ?_
      rw [m2]
      rintro e wn ⟨rfl, hz⟩
      replace k0 := cell_keep k0 hz
      replace k1 := cell_keep k1 hz
      replace hb := below_step hb hz hb.size
      clear hz
      have hp := P2.out m2
      rw [m2, if_pos rfl] at H3
      obtain ⟨r2, rfl⟩ : ∃ r, n2 = r + 1 := ⟨n2 - 1, by omega⟩
      rw [Nat.add_sub_cancel] at H3
      have e2 : ((r2 + 1 : Nat) : Int) - 1 = (r2 : Int) := by omega
      go_wp2_with fail
      refine (HPs.out _ _ _ hb (by omega)).mono ?_
      rw [H3.out]
      rintro e wn ⟨rfl, hz⟩
      replace k0 := cell_keep k0 hz
      replace k1 := cell_keep k1 hz
      replace hb := below_step hb hz hb.size
      clear hz
      go_wp2_with fail
      refine (HLs.out _ _ hb (by omega)).mono ?_
      rw [Y3.out]
      rintro e wn ⟨rfl, hz⟩
      replace k0 := cell_keep k0 hz
      replace k1 := cell_keep k1 hz
      replace hb := below_step hb hz hb.size
      clear hz
      go_wp2
      go_ret
      exact ⟨by rw [HW.out]; rfl, hb⟩
    | false =>
      go_wp2_with fail
      refine (tamong_b _ [14, 15] 2 _ _ rfl rfl (by decide)).mono ?_
      rw [m2]
      rintro e wn ⟨rfl, hz⟩
      replace k0 := cell_keep k0 hz
      replace k1 := cell_keep k1 hz
      replace hb := below_step hb hz hb.size
      clear hz
      rw [m2, if_neg (by simp)] at H3
      obtain rfl := H3.out.symm
      go_wp2_with fail
      refine (HLs.out _ _ hb (by omega)).mono ?_
      rw [Y3.out]
      rintro e wn ⟨rfl, hz⟩
      replace k0 := cell_keep k0 hz
      replace k1 := cell_keep k1 hz
      replace hb := below_step hb hz hb.size
      clear hz
      go_wp2
      go_ret
      exact ⟨by rw [HW.out]; rfl, hb⟩
  | false =>
    go_wp2_with fail
    refine (tamong_b _ [11, 10] 2 _ _ rfl rfl (by decide)).mono ?_
    rw [m1]
    rintro e wn ⟨rfl, hz⟩
    replace k0 := cell_keep k0 hz
    replace k1 := cell_keep k1 hz
    replace hb := below_step hb hz hb.size
    clear hz
    rw [m1, if_neg (by simp)] at H2
    obtain rfl := H2.out.symm
    go_wp2_with fail
    refine (HLs.out _ _ hb (by omega)).mono ?_
    rw [Y2.out]
    rintro e wn ⟨rfl, hz⟩
    replace k0 := cell_keep k0 hz
    replace k1 := cell_keep k1 hz
    replace hb := below_step hb hz hb.size
    clear hz
    cases m2 : ([14, 15].contains y2) with
    | true =>
      go_wp2_with fail
      refine (tamong_b _ [14, 15] 2 _ _ rfl rfl (by decide)).mono ?_
      rw [m2]
      rintro e wn ⟨rfl, hz⟩
      replace k0 := cell_keep k0 hz
      replace k1 := cell_keep k1 hz
      replace hb := below_step hb hz hb.size
      clear hz
      have hp := P2.out m2
      rw [m2, if_pos rfl] at H3
      obtain ⟨r2, rfl⟩ : ∃ r, n2 = r + 1 := ⟨n2 - 1, by omega⟩
      rw [Nat.add_sub_cancel] at H3
      have e2 : ((r2 + 1 : Nat) : Int) - 1 = (r2 : Int) := by omega
      go_wp2_with fail
      refine (HPs.out _ _ _ hb (by omega)).mono ?_
      rw [H3.out]
      rintro e wn ⟨rfl, hz⟩
      replace k0 := cell_keep k0 hz
      replace k1 := cell_keep k1 hz
      replace hb := below_step hb hz hb.size
      clear hz
      go_wp2_with fail
      refine (HLs.out _ _ hb (by omega)).mono ?_
      rw [Y3.out]
      rintro e wn ⟨rfl, hz⟩
      replace k0 := cell_keep k0 hz
      replace k1 := cell_keep k1 hz
      replace hb := below_step hb hz hb.size
      clear hz
      go_wp2
      go_ret
      exact ⟨by rw [HW.out]; rfl, hb⟩
    | false =>
      go_wp2_with fail
      refine (tamong_b _ [14, 15] 2 _ _ rfl rfl (by decide)).mono ?_
      rw [m2]
      rintro e wn ⟨rfl, hz⟩
      replace k0 := cell_keep k0 hz
      replace k1 := cell_keep k1 hz
      replace hb := below_step hb hz hb.size
      clear hz
      rw [m2, if_neg (by simp)] at H3
      obtain rfl := H3.out.symm
      go_wp2_with fail
      refine (HLs.out _ _ hb (by omega)).mono ?_
      rw [Y3.out]
      rintro e wn ⟨rfl, hz⟩
      replace k0 := cell_keep k0 hz
      replace k1 := cell_keep k1 hz
      replace hb := below_step hb hz hb.size
      clear hz
      go_wp2
      go_ret
      exact ⟨by rw [HW.out]; rfl, hb⟩
end Go.Proofs.YtlbfbkdcjdeagaaGreatDoor

