/-
  strings.Builder: Grow at a fresh builder; WriteByte.
-/
import Derived.Test.YteelepiaegpkhaaGreatDoorBld
import Derived.Lib.Builder
import Derived.Lib.FrozenHead2
namespace Go.Proofs.YteelepiaegpkhaaGreatDoor
open Go.RowKit

theorem bGrow_any (b n : Nat) (w : World) (hbk : w.heap[b]? = some (.cells #[.pointer none, .slice none 0 0] 52 (0, 0))) (hn : n ≤ 281474976710656) :
    Calls Tryz.prog 30 #[.pointer (some ⟨b, 0, none⟩), .int .i64 n] w fun e w' => e = .returned (.tuple #[]) ∧ Bld w' b (b + 1) [] ∧ Below b w w' := by
  have hlt : b < w.heap.size := (Array.getElem?_eq_some_iff.1 hbk).1
  refine (Tryz.Builder_Grow_fresh b b n w (Nat.le_refl _) hbk (Nat.le_of_lt hlt) hn).mono ?_
  rintro e w' ⟨rfl, ⟨_, v, h1, h2, h3⟩, hb⟩
  refine ⟨rfl, ⟨_, v, .inr rfl, h1, ?_⟩, hb⟩
  have h4 := World.ownsRowF_of h2
  refine ⟨h4.1, ?_⟩
  rcases h4.2 with h | ⟨g, cap, cur, fz, hv, hg, r⟩
  · exact .inl h
  · refine .inr ⟨g, cap, cur, fz, hv, ?_, r⟩
    rw [hv] at h3
    have : g ≠ b := fun e => h3 (by rw [e]; rfl)
    omega

theorem cell_new1 (w : World) {t : TypeId} (x : Value) : ∀ j u, [x][j]? = some u → (w.alloc (.cells #[x] t)).cell? ((⟨w.heap.size, 0, none⟩ : Addr).add j) = some u := fun j u h => by
  match j, h with
  | 0, h =>
    obtain rfl : x = u := by simpa using h
    exact (Blk.new w t #[x]).cell 0

set_option maxRecDepth 100000 in
set_option maxHeartbeats 1000000 in
theorem lWriteByte_any (b B : Nat) (l : List UInt8) (c : UInt8) (w : World) (h : Bld w b B l) (hbB : b < B) (hlen : l.length + 1 ≤ 140737488355328) (hBw : B ≤ w.heap.size) :
    Calls Tryz.prog 38 #[.pointer (some ⟨b, 0, none⟩), .int .u8 c.toNat] w fun e w' => e = .returned .nilIface ∧ Bld w' b B (l ++ [c]) ∧ Below b w w' ∧ (∀ k, k ≠ b → k < B → w'.heap[k]? = w.heap[k]?) := by
  obtain ⟨i0, hi, hz0, hz1, hz2⟩ := info_parts infoU8
  obtain ⟨p, v, hp, hbk, hown⟩ := h
  have Hchk : Hid (Calls Tryz.prog 37 #[.pointer (some ⟨b, 0, none⟩)] w fun e w' => e = .returned (.tuple #[]) ∧ w'.heap[b]? = some (.cells #[.pointer (some ⟨b, 0, none⟩), v] 52 (0, 0)) ∧ w'.ownsRowF B 5 1 v l.length (Lib.byteCells l) ∧ w.grownBy w' (some b)) := by
    rcases hp with rfl | rfl
    · refine Lib.hid ((copyCheck_fresh b w (by rw [Lib.cell_of_heap hbk]; rfl) (by simp [World.shape?, hbk]) (Lib.frozen_of_heap hbk 0)).mono ?_)
      rintro e w' ⟨rfl, rfl⟩
      have hg : w.grownBy (w.setCell ⟨b, 0, none⟩ (.pointer (some ⟨b, 0, none⟩))) (some b) :=
        ⟨rfl, rfl, rfl, by simp [World.setCell], fun k _ hk => Below.heap_setCell w ⟨b, 0, none⟩ _ k (fun e => hk (by rw [e]))⟩
      refine ⟨rfl, ?_, hown.kept hg ?_, hg⟩
      · simp [World.setCell, Array.getElem?_modify, hbk]
      · exact .inr (Bld.row_ne hown hbk)
    · refine Lib.hid ((copyCheck_used b w (by rw [Lib.cell_of_heap hbk]; rfl)).mono ?_)
      rintro e w' ⟨rfl, rfl⟩
      exact ⟨rfl, hbk, hown, World.grownBy.refl _ _⟩
  clear hp hown hbk
  go_enter Tryz.func38, Tryz.ntmps38
  go_wp2_with fail
  refine Hchk.out.mono ?_
  clear Hchk
  rintro e w1 ⟨rfl, hbk, hown, hg1⟩
  have c0 : w1.cell? ⟨b, 0, none⟩ = some (.pointer (some ⟨b, 0, none⟩)) := by rw [Lib.cell_of_heap hbk]; rfl
  have c1 : w1.cell? ⟨b, 1, none⟩ = some v := by rw [Lib.cell_of_heap hbk]; rfl
  have hs1 := hg1.size
  have hown2 : (w1.alloc (.cells #[.int .u8 c.toNat] 5)).ownsRowF B 5 1 v l.length (Lib.byteCells l) := hown.kept (World.grownBy_alloc w1 _ none) (by
    rcases hown.2 with ⟨rfl, _⟩ | ⟨g, cap, cur, fz, rfl, _⟩
    · exact .inl rfl
    · exact .inr (by simp [Value.ownBlock]))
  have hbk2 : (w1.alloc (.cells #[.int .u8 c.toNat] 5)).heap[b]? = some (.cells #[.pointer (some ⟨b, 0, none⟩), v] 52 (0, 0)) := (Below.heap_alloc w1 _ b (Array.getElem?_eq_some_iff.1 hbk).1).trans hbk
  go_wp2_with (at_builtin; go_must (refine wpList_append_ownF _ rfl _ _ 47 rfl B 5 i0 _ 1 1 Tryz.underlying47 hi hz0 hz1 hz2 rfl (by decide) _ _ _ rfl hown2 ⟨w1.heap.size, 0, none⟩ 1 1 [.int .u8 c.toNat] rfl rfl (cell_new1 w1 _) (by simp [Value.oneCell']) (by unfold maxLen; omega) (by omega) (by simp; omega) ?_))
  intro v' w2 hown' hgrow _
  have hlt : b < w1.heap.size := (Array.getElem?_eq_some_iff.1 hbk).1
  have hne := Bld.row_ne hown hbk
  have hb2 : w2.heap[b]? = some (.cells #[.pointer (some ⟨b, 0, none⟩), v] 52 (0, 0)) := by
    rw [hgrow.block b (by simp; omega) (fun e => hne e.symm)]
    exact hbk2
  have d0 : w2.cell? ⟨b, 0, none⟩ = some (.pointer (some ⟨b, 0, none⟩)) := by rw [Lib.cell_of_heap hb2]; rfl
  have d1 : w2.cell? ⟨b, 1, none⟩ = some v := by rw [Lib.cell_of_heap hb2]; rfl
  have f1 : w2.frozen? ⟨b, 1, none⟩ = false := Lib.frozen_of_heap hb2 1
  obtain ⟨ao, n', cap, rfl⟩ : ∃ ao n' cap, v' = .slice ao n' cap := by
    rcases hown'.2 with ⟨hv, _⟩ | ⟨g, cap, cur, fz, hv, _⟩
    · exact ⟨_, _, _, hv⟩
    · exact ⟨_, _, _, hv⟩
  have hs2 : w1.heap.size + 1 ≤ w2.heap.size := by have := hgrow.size; simpa using this
  go_wp2
  go_ret
  have hblk : ∀ k, k ≠ b → k < B → (w2.setCell ⟨b, 1, none⟩ (.slice ao n' cap)).heap[k]? = w.heap[k]? := fun k hk hkB => by
    rw [Below.heap_setCell w2 ⟨b, 1, none⟩ _ k hk, hgrow.block k (by simp; omega) (fun e => by have := (hown.lt k e.symm).1; omega), Below.heap_alloc w1 _ k (by omega), hg1.block k (by omega) (fun e => by injection e; omega)]
  refine ⟨rfl, ⟨_, .slice ao n' cap, .inr rfl, ?_, ?_⟩, ⟨?_, ?_, ?_, ?_, fun k hk => hblk k (by omega) (by omega)⟩, hblk⟩
  · simp [World.setCell, Array.getElem?_modify, hb2]
  · have hne' := Bld.row_ne hown' hb2
    have hg3 : w2.grownBy (w2.setCell ⟨b, 1, none⟩ (.slice ao n' cap)) (some b) :=
      ⟨rfl, rfl, rfl, by simp [World.setCell], fun k _ hk => Below.heap_setCell w2 ⟨b, 1, none⟩ _ k (fun e => hk (by rw [e]))⟩
    have h := hown'.kept hg3 (.inr hne')
    have e1 : Lib.byteCells (l ++ [c]) = Lib.byteCells l ++ [.int .u8 c.toNat] := by simp [Lib.byteCells]
    rw [e1, List.length_append]
    exact h
  · exact hgrow.os.trans hg1.os
  · exact hgrow.tape.trans hg1.tape
  · exact hgrow.output.trans hg1.output
  · simp [World.setCell]; omega
end Go.Proofs.YteelepiaegpkhaaGreatDoor
