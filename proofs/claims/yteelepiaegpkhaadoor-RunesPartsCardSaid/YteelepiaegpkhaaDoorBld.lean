/-
  strings.Builder: copyCheck, WriteString (the shelf's layings fall at this dump).
-/
import Derived.Test.YteelepiaegpkhaaDoorBase
import Derived.Test.YteelepiaegpkhaaDoorShelf
import Derived.Shelf.Strings.BuilderK
import Derived.Lib.OthersKept
import Derived.RangeFuncOwn
namespace Go.Proofs.YteelepiaegpkhaaDoor
open Go.RowKit

theorem bldSize : (Tryd.prog.info? 84).map (·.size) = some 2 := by kernel_rfl
theorem bldLies : liesAt Tryd.prog Tryd.prog.depth 84 (2 / Tryd.prog.cellsOf 84) 0 84 1 = true := by kernel_rfl
theorem infoU8 : (Tryd.prog.info? 5).map (fun i => (i.zero, i.size, i.bytes)) = some (some (.int .u8 0), 1, 1) := by kernel_rfl

set_option maxRecDepth 100000 in
set_option maxHeartbeats 1000000 in
theorem copyCheck_fresh (b : Nat) (w : World) (h0 : w.cell? ⟨b, 0, none⟩ = some (.pointer none)) (hsh : w.shape? b = some (84, 2)) (hfz : w.frozen? ⟨b, 0, none⟩ = false) :
    Calls Tryd.prog 68 #[.pointer (some ⟨b, 0, none⟩)] w fun e w' => e = .returned (.tuple #[]) ∧ w.setCell ⟨b, 0, none⟩ (.pointer (some ⟨b, 0, none⟩)) = w' := by
  obtain ⟨j, hj, hjs⟩ := Option.map_eq_some_iff.1 bldSize
  go_enter Tryd.func68, Tryd.ntmps68
  go_wp2
  rw [Lib.run_to_unsafe w ⟨b, 0, none⟩ Tryd.underlying81 Tryd.underlying117 hj (by rw [hjs]; decide) hsh (Nat.zero_lt_succ 1)]
  simp only [Result.andThen]
  rw [Oper.upon_value]
  go_wp2
  rw [run_callFunc_extern Tryd.func84 (by kernel_rfl) (by kernel_rfl) (by kernel_rfl) (e := Extern.AbiNoEscape.same) (by kernel_rfl)]
  rw [Lib.run_noEscape]
  simp only [Result.andThen]
  rw [Oper.upon_value]
  go_wp2
  rw [Lib.run_from_unsafe w ⟨b, 0, none⟩ Tryd.underlying117 Tryd.underlying81 hj hsh bldLies]
  simp only [Result.andThen]
  rw [Oper.upon_value]
  go_wp2
  go_end0
  exact ⟨rfl, rfl⟩
set_option maxRecDepth 100000 in
set_option maxHeartbeats 1000000 in
theorem copyCheck_used (b : Nat) (w : World) (h0 : w.cell? ⟨b, 0, none⟩ = some (.pointer (some ⟨b, 0, none⟩))) :
    Calls Tryd.prog 68 #[.pointer (some ⟨b, 0, none⟩)] w fun e w' => e = .returned (.tuple #[]) ∧ w = w' := by
  obtain ⟨j, hj, _⟩ := Option.map_eq_some_iff.1 bldSize
  go_enter Tryd.func68, Tryd.ntmps68
  go_wp2
  rw [Lib.run_neq_ptr_same w _ Tryd.underlying81 hj]
  go_wp2
  go_end0
  exact ⟨rfl, rfl⟩
/-- A builder at block b that holds the bytes l; its row lies at B or beyond. -/
def Bld (w : World) (b B : Nat) (l : List UInt8) : Prop :=
  ∃ p v, (p = .pointer none ∨ p = .pointer (some ⟨b, 0, none⟩)) ∧ w.heap[b]? = some (.cells #[p, v] 84 (0, 0)) ∧ w.ownsRowF B 5 1 v l.length (Lib.byteCells l)
theorem Bld.new (w : World) (B : Nat) : Bld (w.alloc (.cells #[.pointer none, .slice none 0 0] 84)) w.heap.size B [] :=
  ⟨_, _, .inl rfl, heap_alloc_new w _, World.ownsRowF_nil _ _ _ _⟩
theorem Bld.lt {w : World} {b B : Nat} {l : List UInt8} (h : Bld w b B l) : b < w.heap.size := by
  obtain ⟨p, v, _, hb, _⟩ := h; exact (Array.getElem?_eq_some_iff.1 hb).1
theorem Bld.row_ne {w : World} {b B : Nat} {n : Nat} {xs : List Value} {cs : Array Value} {v : Value} (hown : w.ownsRowF B 5 1 v n xs) (hb : w.heap[b]? = some (.cells cs 84 (0, 0))) : v.ownBlock ≠ some b := Lib.ownBlock_neF hown hb (by decide)
theorem Bld.keep {w w' : World} {b B : Nat} {l : List UInt8} (h : Bld w b B l) (hs : ∀ (k : Nat) (o : Obj), w.heap[k]? = some o → o.isCells = true → k = b ∨ B ≤ k → w'.heap[k]? = some o) : Bld w' b B l := by
  obtain ⟨p, v, hp, hb, hown⟩ := h
  refine ⟨p, v, hp, hs b _ hb rfl (.inl rfl), hown.1, ?_⟩
  rcases hown.2 with h0 | ⟨g, cap, cur, fz, hv, hg, hh, r⟩
  · exact .inl h0
  · exact .inr ⟨g, cap, cur, fz, hv, hg, hs g _ hh rfl (.inr hg), r⟩
theorem Bld.below {w w' : World} {b B : Nat} {l : List UInt8} (h : Bld w b B l) (hb : Below w.heap.size w w') : Bld w' b B l := h.keep fun k _ hk _ _ => (hb.block k (Array.getElem?_eq_some_iff.1 hk).1).trans hk
theorem Bld.kept {w w' : World} {row : Option Nat} {b B : Nat} {l : List UInt8} (h : Bld w b B l) (hg : w.grownBy w' row) (hr : ∀ r, row = some r → ∃ o : Obj, w.heap[r]? = some o ∧ o.isCells = false) : Bld w' b B l :=
  h.keep fun k o hk hc _ => (hg.block k (Array.getElem?_eq_some_iff.1 hk).1 (by
    rintro rfl
    obtain ⟨o', h1, h2⟩ := hr k rfl
    rw [hk] at h1; cases h1; rw [hc] at h2; cases h2)).trans hk
theorem Bld.more {w : World} {b B B' : Nat} {l : List UInt8} (h : Bld w b B l) (hB : B' ≤ B) : Bld w b B' l := by
  obtain ⟨p, v, hp, hb, hown⟩ := h
  refine ⟨p, v, hp, hb, hown.1, ?_⟩
  rcases hown.2 with h0 | ⟨g, cap, cur, fz, hv, hg, r⟩
  · exact .inl h0
  · exact .inr ⟨g, cap, cur, fz, hv, by omega, r⟩
theorem Bld.is {w : World} {b B : Nat} {l : List UInt8} (h : Bld w b B l) (hB : b ≤ B) : Lib.IsBuilderF 84 5 b b (Lib.byteCells l) w := by
  obtain ⟨p, v, hp, hb, hown⟩ := h.more hB
  have hl : (Lib.byteCells l).length = l.length := Lib.byteCells_length l
  rcases hp with rfl | rfl
  · exact .inl ⟨Nat.le_refl _, v, hb, by rw [hl]; exact hown, Bld.row_ne hown hb⟩
  · exact .inr ⟨Nat.le_refl _, v, hb, by rw [hl]; exact hown, Bld.row_ne hown hb⟩
theorem bString_any (b B : Nat) (l : List UInt8) (w : World) (h : Bld w b B l) (hB : b ≤ B) :
    Calls Tryd.prog 59 #[.pointer (some ⟨b, 0, none⟩)] w fun e w' => e = .returned (.string ⟨l.toArray⟩) ∧ Below b w w' ∧ Lib.OthersKept 5 (some b) w w' :=
  (Tryd.Builder_String_any_k b b l w (h.is hB) (Nat.le_of_lt h.lt)).mono fun _ _ ⟨h1, _, h2, h3⟩ => ⟨h1, h2, h3⟩

set_option maxRecDepth 100000 in
set_option maxHeartbeats 1000000 in
theorem lWriteString_any (b B : Nat) (l : List UInt8) (s : ByteArray) (w : World) (h : Bld w b B l) (hbB : b < B) (hlen : l.length + s.size ≤ 140737488355328) (hBw : B ≤ w.heap.size) :
    Calls Tryd.prog 58 #[.pointer (some ⟨b, 0, none⟩), .string s] w fun e w' => e = .returned (.tuple #[.int .i64 s.size, .nilIface]) ∧ Bld w' b B (l ++ s.data.toList) ∧ Below b w w' ∧ (∀ k, k ≠ b → k < B → w'.heap[k]? = w.heap[k]?) ∧ KeepsOthers w w' := by
  obtain ⟨i0, hi, hz0, hz1, hz2⟩ := info_parts infoU8
  obtain ⟨p, v, hp, hbk, hown⟩ := h
  have hcells : ∀ o, w.heap[b]? = some o → o.isCells = true := fun o ho => by rw [hbk] at ho; cases ho; rfl
  have Hcells := Lib.hid hcells
  clear hcells
  have Hchk : Hid (Calls Tryd.prog 68 #[.pointer (some ⟨b, 0, none⟩)] w fun e w' => e = .returned (.tuple #[]) ∧ w'.heap[b]? = some (.cells #[.pointer (some ⟨b, 0, none⟩), v] 84 (0, 0)) ∧ w'.ownsRowF B 5 1 v l.length (Lib.byteCells l) ∧ w.grownBy w' (some b)) := by
    rcases hp with rfl | rfl
    · refine Lib.hid ((copyCheck_fresh b w (by rw [Lib.cell_of_heap hbk]; rfl) (by simp [World.shape?, hbk]) (Lib.frozen_of_heap hbk 0)).mono ?_)
      rintro e w' ⟨rfl, rfl⟩
      have hg : w.grownBy (w.setCell ⟨b, 0, none⟩ (.pointer (some ⟨b, 0, none⟩))) (some b) :=
        ⟨rfl, rfl, rfl, by simp [World.setCell], fun k _ hk => Below.heap_setCell w ⟨b, 0, none⟩ _ k (fun e => hk (by rw [e]))⟩
      refine ⟨rfl, ?_, hown.kept hg ?_, hg⟩
      · simp [World.setCell, Array.getElem?_modify, hbk]
      · exact .inr (Bld.row_ne hown hbk)
    · refine Lib.hid ((copyCheck_used b w (by rw [Lib.cell_of_heap hbk]; rfl)).mono ?_)
      rintro e w' ⟨rfl, rfl⟩
      exact ⟨rfl, hbk, hown, World.grownBy.refl _ _⟩
  clear hp hown hbk
  go_enter Tryd.func58, Tryd.ntmps58
  go_wp2_with fail
  refine Hchk.out.mono ?_
  clear Hchk
  rintro e w1 ⟨rfl, hbk, hown, hg1⟩
  have c0 : w1.cell? ⟨b, 0, none⟩ = some (.pointer (some ⟨b, 0, none⟩)) := by rw [Lib.cell_of_heap hbk]; rfl
  have c1 : w1.cell? ⟨b, 1, none⟩ = some v := by rw [Lib.cell_of_heap hbk]; rfl
  have hs1 := hg1.size
  go_wp2_with (at_builtin; refine Lib.wpList_append_own_stringF _ rfl _ _ 82 9 rfl B 5 i0 Tryd.underlying82 Tryd.underlying9 hi hz0 hz1 hz2 _ _ _ rfl hown s rfl ?c3 ?c4 ?c5 ?_)
  case c3 => unfold maxLen; omega
  case c4 => omega
  case c5 => omega
  intro v' w2 hown' hgrow _
  have hlt : b < w1.heap.size := (Array.getElem?_eq_some_iff.1 hbk).1
  have hne := Bld.row_ne hown hbk
  have hb2 : w2.heap[b]? = some (.cells #[.pointer (some ⟨b, 0, none⟩), v] 84 (0, 0)) := by
    rw [hgrow.block b hlt (fun e => hne e.symm)]
    exact hbk
  have d0 : w2.cell? ⟨b, 0, none⟩ = some (.pointer (some ⟨b, 0, none⟩)) := by rw [Lib.cell_of_heap hb2]; rfl
  have d1 : w2.cell? ⟨b, 1, none⟩ = some v := by rw [Lib.cell_of_heap hb2]; rfl
  have f1 : w2.frozen? ⟨b, 1, none⟩ = false := Lib.frozen_of_heap hb2 1
  obtain ⟨ao, n', cap, rfl⟩ : ∃ ao n' cap, v' = .slice ao n' cap := by
    rcases hown'.2 with ⟨hv, _⟩ | ⟨g, cap, cur, fz, hv, _⟩
    · exact ⟨_, _, _, hv⟩
    · exact ⟨_, _, _, hv⟩
  have hs2 := hgrow.size
  go_wp2
  go_ret2
  have hblk : ∀ k, k ≠ b → k < B → (w2.setCell ⟨b, 1, none⟩ (.slice ao n' cap)).heap[k]? = w.heap[k]? := fun k hk hkB => by
    rw [Below.heap_setCell w2 ⟨b, 1, none⟩ _ k hk, hgrow.block k (by omega) (fun e => by have := (hown.lt k e.symm).1; omega), hg1.block k (by omega) (fun e => by injection e; omega)]
  refine ⟨rfl, ⟨_, .slice ao n' cap, .inr rfl, ?_, ?_⟩, ⟨?_, ?_, ?_, ?_, fun k hk => hblk k (by omega) (by omega)⟩, hblk, ?_⟩
  · simp [World.setCell, Array.getElem?_modify, hb2]
  · have hne' := Bld.row_ne hown' hb2
    have hg3 : w2.grownBy (w2.setCell ⟨b, 1, none⟩ (.slice ao n' cap)) (some b) :=
      ⟨rfl, rfl, rfl, by simp [World.setCell], fun k _ hk => Below.heap_setCell w2 ⟨b, 1, none⟩ _ k (fun e => hk (by rw [e]))⟩
    have h := hown'.kept hg3 (.inr hne')
    have e1 : Lib.byteCells (l ++ s.data.toList) = Lib.byteCells l ++ Lib.strCells s := by simp [Lib.byteCells, Lib.strCells]
    rw [e1, List.length_append, Array.length_toList]
    exact h
  · exact hgrow.os.trans hg1.os
  · exact hgrow.tape.trans hg1.tape
  · exact hgrow.output.trans hg1.output
  · simp [World.setCell]; omega
  · refine ⟨by simp [World.setCell]; omega, fun k o hk ho => ?_⟩
    have hkb : k ≠ b := fun e => by
      subst e
      have := Hcells.out o hk
      rw [ho] at this; cases this
    rw [Below.heap_setCell w2 ⟨b, 1, none⟩ _ k hkb, hgrow.block k (by have := (Array.getElem?_eq_some_iff.1 hk).1; omega) ?_, hg1.block k (Array.getElem?_eq_some_iff.1 hk).1 (fun e => by injection e; omega)]
    · exact hk
    · intro e
      obtain ⟨c, fz, hc⟩ := Lib.ownsRowF_kind hown k e.symm
      rw [hg1.block k (Array.getElem?_eq_some_iff.1 hk).1 (fun e => by injection e; omega), hk] at hc
      cases hc; cases ho
end Go.Proofs.YteelepiaegpkhaaDoor
