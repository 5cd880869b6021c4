/-
  Several texts in one, in their build order: WitP, Post, Rng, RunD, RunT, Wk, Qg.
-/
import Derived.Test.YtejccafolfeabaaGreatDoorCards
import Derived.Test.YtejccafolfeabaaGreatDoorTie
import Derived.PinnedBridge
import Derived.Lib.LaidIn
import Derived.Lib.LaidU8
import Derived.Lib.LaidTab
import Derived.Lib.LaidCaseMet
import Derived.Shelf.Vars
import Derived.Deep.DeepHandedRow
import Derived.Deep.DeepWitnessRowRef
import Derived.ProofKit
import Derived.Carry
import Derived.ChangeSame
import Derived.OpenShut
import Derived.Deep.SlicePairs
import Derived.SizedLaws
import Derived.ChangeSlices
import Derived.RangeFuncNested
import Derived.RangeFuncLeaves
import Derived.RangeFuncBound
import Derived.RangeFuncCalls
import Derived.Shelf.Abstract
import Derived.Shelf.RegionOpen
import Derived.OwnWalkIn
import Derived.TacticsInMore
import Derived.LoopNIn
import Derived.LoopIn
import Derived.Laws.EntriesVeiled
import Derived.Test.YtejccafolfeabaaGreatDoorZ1
import Derived.Test.YtejccafolfeabaaGreatDoorZ2
import Derived.Test.YtejccafolfeabaaGreatDoorZ3
import Derived.Test.YtejccafolfeabaaGreatDoorZ4
/-
  WHAT THE LISTED VARIABLES GIVE (the tables of utf8); a world that bears them all, for the witness.
-/
namespace Go.Proofs.YtejccafolfeabaaGreatDoor
open Go.ChangeShapes Go.WideShapes Go.ChangeAt Go.RowKit Go.Lib Go.Shelf

theorem ownK : ownKnob Tryz.prog.godebug = none := by kernel_rfl
set_option maxRecDepth 100000 in
theorem accept_eq : (Rows.laid_unicode_utf8_acceptRanges : DataW Unit) = acceptData := by kernel_rfl
theorem tabs_of_laid {W : World} (hL : laidMetH Tryz.prog Rows.propsNamesRow.laid W) : Tabs W := by
  have h1 := laidMet.reads hL (.tail _ (.tail _ (.tail _ (.tail _ (.tail _ (.tail _ (.tail _ (.head _))))))))
  have h2 := laidMet.reads hL (.tail _ (.tail _ (.tail _ (.head _))))
  rw [show (Rows.laid_unicode_utf8_first : DataW Unit) = firstData from Pinned.utf8First_eq] at h1
  rw [accept_eq] at h2
  exact utf8Tabs_of_reads (ρ := Tryz.lays260_ren) { Tryz.lays260 with } ⟨by kernel_rfl, by kernel_rfl, by kernel_rfl, by kernel_rfl, by kernel_rfl, by kernel_rfl, by kernel_rfl⟩ h1 h2

def deB64 : List Int := [0, 1, 56, 2, 57, 49, 28, 3, 61, 58, 42, 50, 38, 29, 17, 4, 62, 47, 59, 36, 45, 43, 51, 22, 53, 39, 33, 30, 24, 18, 12, 5, 63, 55, 48, 27, 60, 41, 37, 16, 46, 35, 44, 21, 52, 32, 23, 11, 54, 26, 40, 15, 34, 20, 31, 10, 25, 14, 19, 9, 13, 8, 7, 6]
theorem tabB_of_laid {W : World} (hL : laidMetH Tryz.prog Rows.propsNamesRow.laid W) : TabB W := by
  have h := laidMet.reads hL (.tail _ (.head _))
  rw [show (Rows.laid_math_bits_deBruijn64tab : DataW Unit) = tabData .u8 deB64 by kernel_rfl] at h
  obtain ⟨g, t, cs, fuel, p, hg, hty, hvar, hd⟩ := h
  obtain rfl := Option.some.inj ((show Tryz.prog.globalNamed "math/bits.deBruijn64tab" = some 6 by kernel_rfl).symm.trans hg)
  obtain rfl := Option.some.inj ((show (Tryz.prog.globals[(6 : Nat)]?).map (·.type) = some 252 by kernel_rfl).symm.trans hty)
  have hcs := cells_of_tab Tryz.underlying252 Tryz.underlying5 (by kernel_rfl) (by kernel_rfl) hd
  have := World.var?_cell hg hvar 15
  unfold TabB
  rw [this, ← Array.getElem?_toList, hcs]; rfl

theorem env_of_laid {W : World} (hL : laidMetH Tryz.prog Rows.propsNamesRow.laid W) (hS : W.ShapedOpen Tryz.prog) : Env W :=
  ⟨tabs_of_laid hL, cell_of_shapedOpen_int hS (g := 0) (t := 3) (zero := #[.int .i64 0]) (of_decide_eq_true (by kernel_rfl)) (by kernel_rfl) rfl (by kernel_rfl) (by kernel_rfl) Tryz.underlying3, tabB_of_laid hL⟩

/-- THE WITNESS's WORLD: the settled one with three blocks more (the two errors' structs; the rows of the table of cases); the variables hold what their initialisers lay. -/
noncomputable def laidWorld (os : Os) : World :=
  let N := (World.settled Tryz.prog os).heap.size
  let w0 := World.holding Tryz.prog os ⟨#[.cells #[.string ⟨#[118, 97, 108, 117, 101, 32, 111, 117, 116, 32, 111, 102, 32, 114, 97, 110, 103, 101]⟩] 259, .cells #[.string ⟨#[105, 110, 118, 97, 108, 105, 100, 32, 115, 121, 110, 116, 97, 120]⟩] 259, .cells Lib.caseCells5 250], #[], []⟩
  let put (h : Array Obj) (g : Nat) (cs : Array Value) : Array Obj := h.modify g fun
    | .cells _ t frozen => .cells cs t frozen
    | o => o
  let h1 := put w0.heap 1 (firstTab.map fun z => Value.int .u8 z).toArray
  let h2 := put h1 2 ((List.range 16).flatMap fun i => [Value.int .u8 (accLo i), Value.int .u8 (accHi i)]).toArray
  let h3 := put h2 7 #[.iface 257 (.pointer (some ⟨N + 1, 0, none⟩))]
  let h4 := put h3 8 #[.iface 257 (.pointer (some ⟨N, 0, none⟩))]
  let h5 := put h4 4 ((List.range 20).map fun i => Value.int .u64 (10 ^ i : Nat)).toArray
  let h6 := put h5 5 ([0, 1, 28, 2, 29, 14, 24, 3, 30, 22, 20, 15, 25, 17, 4, 8, 31, 27, 13, 23, 21, 19, 16, 7, 26, 12, 18, 6, 11, 5, 10, 9].map fun (z : Int) => Value.int .u8 z).toArray
  let h7 := put h6 6 ([0, 1, 56, 2, 57, 49, 28, 3, 61, 58, 42, 50, 38, 29, 17, 4, 62, 47, 59, 36, 45, 43, 51, 22, 53, 39, 33, 30, 24, 18, 12, 5, 63, 55, 48, 27, 60, 41, 37, 16, 46, 35, 44, 21, 52, 32, 23, 11, 54, 26, 40, 15, 34, 20, 31, 10, 25, 14, 19, 9, 13, 8, 7, 6].map fun (z : Int) => Value.int .u8 z).toArray
  let h8 := put h7 3 #[.slice (some ⟨N + 2, 0, none⟩) Lib.caseA.size Lib.caseA.size]
  { w0 with heap := h8 }
/-- A world in which the variable holds a slice of the table's cells reads as the table: the table's own row of 'laid'. -/
theorem caseIn {P : Program} {ρ : Go.Shelf.Ren} (L : Go.Proofs.Lays.n274 P ρ) (t206 : P.underlying (ρ.t 206) = some (.array 3 (ρ.t 21))) (X : CaseExtra P ρ) {w : World} (R : Nat) (t : TypeId) (hgR : ρ.g 13 ≠ R)
    (hvar : w.heap[ρ.g 13]? = some (.cells #[.slice (some ⟨R, 0, none⟩) caseA.size caseA.size] (ρ.t 162) (0, 0)))
    (hblk : w.heap[R]? = some (.cells caseCells5 t (0, 0))) : LaidIn P w [("unicode.CaseRanges", caseData)] [ρ.g 13, R] := by
  have hT := caseTab_of_block hblk
  have hread := case_slice_reads L t206 X hT caseA_wf (by rw [caseA_size]; unfold maxLen; omega) 0
  rw [case_rows_data] at hread
  have hv : w.var? P "unicode.CaseRanges" = some #[.slice (some ⟨R, 0, none⟩) caseA.size caseA.size] := by simp [World.var?, X.n13, hvar]
  refine LaidIn.one _ X.n13 X.y13 hv hread ?_ (fun b off hp => ?_) (fun x hx => ?_)
  · refine List.nodup_append.2 ⟨row_nodup _ _, row_nodup _ _, ?_⟩
    intro a ha b hb e
    obtain ⟨i, _, rfl⟩ := MemPlace.mem_row.1 ha
    obtain ⟨j, _, rfl⟩ := MemPlace.mem_row.1 hb
    simp at e
    exact hgR e.1
  · rcases List.mem_append.1 hp with hp | hp
    · obtain ⟨i, hi, e⟩ := MemPlace.mem_row.1 hp
      cases e
      refine ⟨⟨_, _, hvar⟩, fun u v hc => ?_⟩
      obtain rfl : i = 0 := by simp at hi; omega
      rw [Lib.cell_of_heap hvar] at hc
      simp at hc
    · obtain ⟨i, hi, e⟩ := MemPlace.mem_row.1 hp
      cases e
      refine ⟨⟨_, _, hblk⟩, fun u v hc => ?_⟩
      obtain ⟨c0, c1, c2, c3, c4⟩ := hT (i / 5) (by omega)
      have hi5 : 0 + i = 0 + i / 5 * 5 + i % 5 := by omega
      simp only at hc
      rw [hi5] at hc
      have hm : i % 5 < 5 := Nat.mod_lt _ (by omega)
      match hk : i % 5, hm with
      | 0, _ => rw [hk, Nat.add_zero, c0] at hc; cases hc
      | 1, _ => rw [hk, c1] at hc; cases hc
      | 2, _ => rw [hk, c2] at hc; cases hc
      | 3, _ => rw [hk, c3] at hc; cases hc
      | 4, _ => rw [hk, c4] at hc; cases hc
  · rcases List.mem_append.1 hx with hx | hx
    · obtain ⟨i, _, rfl⟩ := MemPlace.mem_row.1 hx; simp [MemPlace.block]
    · obtain ⟨i, _, rfl⟩ := MemPlace.mem_row.1 hx; simp [MemPlace.block]
/-- The numbers of the table's types here, and its variable's. -/
def renC : Go.Shelf.Ren := ⟨Tryz.lays274_ren.f, Tryz.lays274_ren.t, fun _ => 3⟩
set_option maxRecDepth 1000000 in
theorem laid_in (os : Os) (args : Array Value) : LaidIn Tryz.prog ((laidWorld os).forCall (fun _ _ => 0) ⟨#[], args, []⟩).memory Rows.propsNamesRow.laid ([2, 7, 8, 4, 5, 6, (World.settled Tryz.prog default).heap.size, (World.settled Tryz.prog default).heap.size + 1] ++ ([3, (World.settled Tryz.prog default).heap.size + 2] ++ [1])) := by
  have h1 : LaidIn Tryz.prog ((laidWorld os).forCall (fun _ _ => 0) ⟨#[], args, []⟩).memory (Rows.propsNamesRow.laid.take 6) [2, 7, 8, 4, 5, 6, (World.settled Tryz.prog default).heap.size, (World.settled Tryz.prog default).heap.size + 1] :=
    LaidIn.of_run _ 8 (by kernel_rfl) (by kernel_rfl) (by kernel_rfl) (by kernel_rfl)
  have h2 : LaidIn Tryz.prog ((laidWorld os).forCall (fun _ _ => 0) ⟨#[], args, []⟩).memory [("unicode.CaseRanges", Rows.laid_unicode_CaseRanges)] [3, (World.settled Tryz.prog default).heap.size + 2] := by
    rw [show (Rows.laid_unicode_CaseRanges : DataW Unit) = caseData from Pinned.caseRanges_eq]
    exact caseIn (ρ := renC) { Tryz.lays274 with } (by kernel_rfl) ⟨by kernel_rfl, by kernel_rfl, by kernel_rfl, by kernel_rfl, by kernel_rfl, by kernel_rfl⟩ ((World.settled Tryz.prog default).heap.size + 2) 250 (of_decide_eq_true (by kernel_rfl)) (by kernel_rfl) (by kernel_rfl)
  have h3 : LaidIn Tryz.prog ((laidWorld os).forCall (fun _ _ => 0) ⟨#[], args, []⟩).memory [("unicode/utf8.first", Rows.laid_unicode_utf8_first)] [1] :=
    LaidIn.of_run _ 8 (by kernel_rfl) (by kernel_rfl) (by kernel_rfl) (by kernel_rfl)
  exact LaidIn.append h1 (LaidIn.append h2 h3 (by kernel_rfl)) (by kernel_rfl)
end Go.Proofs.YtejccafolfeabaaGreatDoor

/-
  THE LAST STEP OF A LAW's ROW: it answers true, and nothing that lay has turned; an argument that is a list of ranges, opened. No walk.
-/
namespace Go.Proofs.YtejccafolfeabaaGreatDoor
open Go.ChangeShapes Go.WideShapes Go.ChangeAt Go.RowKit

section
variable {H : Type} {enc : TypeId × Value → H} {P : Program}
theorem trodAll_stays {W W' : World} {sp' : Nat → Bool} (hl : laidOutB P = true) : ∀ {ts : List TypeId} {vs : List Value} {ds : List (DataW H)} {ps : List MemPlace}, (∀ t ∈ ts, P.readableRec t = true ∧ t < P.types.size) →
    DataW.TrodAll enc P W 0 (fun _ => true) true ts vs ds ps → (∀ p ∈ ps, W.sameAt W' p) → (∀ p ∈ ps, sp' p.block = true) → DataW.TrodAll enc P W' 0 sp' true ts vs ds ps
  | [], vs, ds, ps, _, h, _, _ => by
    obtain ⟨rfl, rfl, rfl⟩ := trodAll_nil h
    exact trodAll_mk0
  | t :: ts, vs, ds, ps, ht, h, h1, h2 => by
    obtain ⟨v, vs', d, ds', p, q, rfl, rfl, rfl, h0, hr⟩ := trodAll_cons h
    exact trodAll_cons_mk (WideElems.Trod_stays hl (ht t (by simp)).1 (ht t (by simp)).2 h0 (fun x hx => h1 x (by simp [hx])) (fun x hx => h2 x (by simp [hx])))
      (trodAll_stays hl (fun u hu => ht u (by simp [hu])) hr (fun x hx => h1 x (by simp [hx])) (fun x hx => h2 x (by simp [hx])))
/-- A law that answers true and turns nothing that lay. -/
theorem post_law {f : Func} {s : ChangeSpec} {apart fresh handsOn again : Bool} {W W' : World} {args : Array Value} {ds gs : List (DataW H)} {before : List MemPlace} {tb : TypeId}
    (hl : laidOutB P = true) (hps : (f.params.toList.all fun t => P.readableRec t && decide (t < P.types.size)) = true) (hres : f.resultTypes = #[tb]) (htb : P.underlying tb = some .bool) (hv : s.vars = [])
    (hfn : ∀ (gs' : List (DataW H)), gs' = [] → s.fn H (ds ++ gs') = { results := [.lit (.bool true)], args := ds })
    (hW : DataW.Whole enc P f.params.toList s.vars apart W args.toList ds gs before) (hb : Below W.heap.size W W') :
    s.post enc P f apart fresh handsOn again W args (.bool true) W' := by
  have hlt : ∀ p ∈ before, p.block < W.heap.size := fun p hp => hW.lt p hp
  have hW' := hW
  obtain ⟨p, q, hA, hV, rfl, hfz, hnd⟩ := hW'
  have hA' : DataW.TrodAll enc P W 0 (fun _ => true) true f.params.toList args.toList ds p := hA
  rw [hv] at hV
  obtain ⟨rfl, rfl⟩ := trodVars_none hV
  have hpr : ∀ t ∈ f.params.toList, P.readableRec t = true ∧ t < P.types.size := fun t ht => by
    have := List.all_eq_true.1 hps t ht
    simpa using this
  have hres' : ∀ (b : Nat) (sp : Nat → Bool) (hd : Bool), DataW.TrodAll enc P W' b sp hd f.resultTypes.toList ((Value.bool true).resultList f.resultTypes.size) (s.fn H (ds ++ [])).results [] := fun b sp hd => by
    rw [hres, hfn [] rfl]
    exact trodAll_cons_mk (shut_bool htb _) trodAll_mk0
  have hargs : ∀ sp : Nat → Bool, (∀ x ∈ p ++ [], sp x.block = true) → DataW.TrodAll enc P W' 0 sp true f.params.toList args.toList (s.fn H (ds ++ [])).args p := fun sp hsp => by
    rw [hfn [] rfl]
    exact trodAll_stays hl hpr hA' (fun x hx => hb.same (hlt x (by simp [hx]))) (fun x hx => hsp x (by simp [hx]))
  have hvars : ∀ sp : Nat → Bool, DataW.TrodVars enc P W' sp s.vars (s.fn H (ds ++ [])).vars [] := fun sp => by
    rw [hv, hfn [] rfl]
    exact rfl
  have hold : ∀ x ∈ p ++ [], (fun b => decide (b < W.heap.size)) x.block = true := fun x hx => by simpa using hlt x hx
  refine ⟨ds, [], p ++ [], [], p, [], hW, hres' _ _ _, hargs _ hold, hvars _, World.keptBut_mono (fun x hx => ⟨hx, ?_⟩) (hb.frame (· ∈ p ++ [])), fun _ => ?_⟩
  · simpa using hx
  · refine ⟨?_, _, _, ([] ++ p) ++ [], ⟨[] ++ p, [], trodAll_append (hargs _ (fun _ _ => rfl)) (hres' _ _ _), hvars _, rfl, ?_, ?_⟩, ?_⟩
    · exact ok_one hres rfl (okWide_bool_mk htb _)
    · intro b off hp
      have hin : MemPlace.cell b off ∈ p ++ [] := by simpa using hp
      rw [hb.frozen (hlt _ hin)]
      exact hfz b off hin
    · intro ha
      simpa using hnd ha
    · intro x hx _
      simpa using hx
end

theorem cellsR : Tryz.prog.cellsOf 80 = 2 := by kernel_rfl
theorem cellsI32 : Tryz.prog.cellsOf 21 = 1 := by kernel_rfl
set_option maxRecDepth 100000 in
/-- An argument that is a list of ranges. -/
theorem open_ranges {H : Type} {enc : TypeId × Value → H} {W : World} {r : Reach} {b0 : Nat} {v : Value} {d : DataW H} {p : List MemPlace} (hv : Value.okWide Tryz.prog W r b0 37 v) (hd : DataW.Trod enc Tryz.prog W 0 (fun _ => true) true 37 v d p) :
    ∃ (A : Option Addr) (n c : Nat) (l : List (Int × Int)), v = .slice A n c ∧ Rd W 2 A (l.map encR) ∧ l.length = n ∧ n ≤ maxLen ∧ (n = 0 ∨ ∃ el sp, d = .slice el sp ∧ el.length = n) ∧ ∀ x ∈ l, (-2147483648 ≤ x.1 ∧ x.1 ≤ 2147483647) ∧ (-2147483648 ≤ x.2 ∧ x.2 ≤ 2147483647) := by
  obtain ⟨A, n, c, rfl⟩ := okWide_slice Tryz.underlying37 hv
  obtain ⟨fuel, hf⟩ := hd
  rcases Go.Deep.open_slice_pairs Tryz.underlying37 Tryz.underlying80 cellsR rfl rfl cellsI32 cellsI32 hf with ⟨hc, _⟩ | ⟨a, len, cap, m, k, V0, V1, D0, D1, P0, P1, hc, _, hl, hm, hmm, hxd, hx⟩
  · simp [Value.cells] at hc
    obtain ⟨rfl, rfl, rfl⟩ := hc
    exact ⟨none, 0, 0, [], rfl, Rd.nil_ _ _ _, rfl, by unfold maxLen; omega, Or.inl rfl, by simp⟩
  · simp [Value.cells] at hc
    obtain ⟨rfl, rfl, rfl⟩ := hc
    have hmn : m = c := by simpa using hmm
    have key : ∀ i, i < n → ∃ lo hi : Int, W.cell? (a.add (i * 2)) = some (.int .i32 lo) ∧ W.cell? (a.add (i * 2 + 1)) = some (.int .i32 hi) ∧ (-2147483648 ≤ lo ∧ lo ≤ 2147483647) ∧ (-2147483648 ≤ hi ∧ hi ≤ 2147483647) := by
      intro i hi
      obtain ⟨h0, h1, h2, h3⟩ := hx i (by omega)
      obtain ⟨lo, e0, _, w0⟩ := DataW.trod_int Tryz.underlying21 h2
      obtain ⟨hi', e1, _, w1⟩ := DataW.trod_int Tryz.underlying21 h3
      simp at e0 e1
      rw [e0] at h0; rw [e1] at h1
      exact ⟨lo, hi', h0, h1, bounds_i32 w0, bounds_i32 w1⟩
    obtain ⟨f, hf2⟩ : ∃ f : Nat → Int × Int, ∀ i, i < n → W.cell? (a.add (i * 2)) = some (.int .i32 (f i).1) ∧ W.cell? (a.add (i * 2 + 1)) = some (.int .i32 (f i).2) ∧ (-2147483648 ≤ (f i).1 ∧ (f i).1 ≤ 2147483647) ∧ (-2147483648 ≤ (f i).2 ∧ (f i).2 ≤ 2147483647) :=
      ⟨fun i => if h : i < n then (Classical.choose (key i h), Classical.choose (Classical.choose_spec (key i h))) else (0, 0), fun i hi => by
        simp only [dif_pos hi]
        exact Classical.choose_spec (Classical.choose_spec (key i hi))⟩
    clear key hx
    refine ⟨some a, n, c, (List.range n).map f, rfl, ?_, by simp, by omega, Or.inr ⟨_, _, congrArg Prod.fst hxd, by simp⟩, ?_⟩
    · intro hne
      have hn0 : 0 < n := by
        rcases Nat.eq_zero_or_pos n with h | h
        · subst h; simp at hne
        · exact h
      obtain ⟨b, off, spot⟩ := a
      have hsp : spot = none := by
        have h0 := (hf2 0 hn0).1
        simpa [Addr.add] using World.cell?_spot h0
      subst hsp
      have ea : ∀ q, (⟨b, off, none⟩ : Addr).add q = ⟨b, off + q, none⟩ := fun q => by
        unfold Addr.add; split
        · rename_i hq; subst hq; rfl
        · rfl
      refine ⟨b, off, rfl, fun i j x u hi hj => ?_⟩
      have hin : i < n := by
        have := (List.getElem?_eq_some_iff.1 hi).1
        simpa using this
      have hxe : encR (f i) = x := by
        simp [hin] at hi; exact hi
      subst hxe
      obtain ⟨h0, h1, _⟩ := hf2 i hin
      rw [ea] at h0 h1
      match j, hj with
      | 0, hj => simp [encR] at hj; subst hj; simpa using h0
      | 1, hj => simp [encR] at hj; subst hj; simpa [Nat.add_assoc] using h1
    · intro x hx'
      obtain ⟨i, hi, rfl⟩ := List.mem_map.1 hx'
      have := hf2 i (List.mem_range.1 hi)
      exact ⟨this.2.2.1, this.2.2.2⟩
/-- A list of ranges that the reach holds is no longer than 2^44. -/
theorem sized_ranges {H : Type} {ts : List TypeId} {ds : List (DataW H)} (h : (DataW.weightsEach Tryz.prog ts ds).all (· ≤ reachBytes) = true) {j : Nat} {d : DataW H} {n : Nat} (ht : ts[j]? = some 37) (hd : ds[j]? = some d)
    (hn : n = 0 ∨ ∃ el sp, d = .slice el sp ∧ el.length = n) : n ≤ 17592186044416 := by
  rcases hn with rfl | ⟨el, sp, rfl, rfl⟩
  · omega
  · have h1 := sized_slice h ht hd Tryz.underlying37
    rw [show Tryz.prog.bytesOf 80 = 8 by kernel_rfl] at h1
    have h2 := reachBytes_lt
    simp only [Nat.reducePow] at h2
    omega
set_option maxRecDepth 100000 in
/-- An argument that is a list of runes. -/
theorem open_runes {H : Type} {enc : TypeId × Value → H} {W : World} {r : Reach} {b0 : Nat} {v : Value} {d : DataW H} {p : List MemPlace} (hv : Value.okWide Tryz.prog W r b0 24 v) (hd : DataW.Trod enc Tryz.prog W 0 (fun _ => true) true 24 v d p) :
    ∃ (A : Option Addr) (n c : Nat) (q : List Int), v = .slice A n c ∧ Rd W 1 A (q.map fun r => [.int .i32 r]) ∧ q.length = n ∧ n ≤ maxLen := by
  obtain ⟨A, n, c, rfl⟩ := okWide_slice Tryz.underlying24 hv
  obtain ⟨fuel, hf⟩ := hd
  rcases Go.ChangeShapes.open_ints Tryz.underlying24 Tryz.underlying21 cellsI32 hf with ⟨hc, _⟩ | ⟨a, len, cap, zs, hc, _, hl, hm, hzl, _, hx, _⟩
  · simp [Value.cells] at hc
    obtain ⟨rfl, rfl, rfl⟩ := hc
    exact ⟨none, 0, 0, [], rfl, Rd.nil_ _ _ _, rfl, by unfold maxLen; omega⟩
  · simp [Value.cells] at hc
    obtain ⟨rfl, rfl, rfl⟩ := hc
    have hzc : zs.length = c := by simpa using hzl
    refine ⟨some a, n, c, zs.take n, rfl, ?_, by simp; omega, by omega⟩
    intro hne
    have hn0 : 0 < n := by
      rcases Nat.eq_zero_or_pos n with h | h
      · subst h; simp at hne
      · exact h
    obtain ⟨b, off, spot⟩ := a
    have hsp : spot = none := by
      have h0 := hx 0 (by omega)
      simpa [Addr.add] using World.cell?_spot h0
    subst hsp
    have ea : ∀ q, (⟨b, off, none⟩ : Addr).add q = ⟨b, off + q, none⟩ := fun q => by
      unfold Addr.add; split
      · rename_i hq; subst hq; rfl
      · rfl
    refine ⟨b, off, rfl, fun i j x u hi hj => ?_⟩
    have hin : i < n := by
      have := (List.getElem?_eq_some_iff.1 hi).1
      simp at this; omega
    have hxe : [Value.int .i32 (zs.getD i 0)] = x := by
      rw [List.getElem?_map, List.getElem?_take_of_lt hin] at hi
      rw [List.getD_eq_getElem?_getD]
      rcases hz : zs[i]? with _ | z
      · rw [hz] at hi; simp at hi
      · rw [hz] at hi; simpa using hi
    subst hxe
    have h0 := hx i (by omega)
    rw [ea] at h0
    match j, hj with
    | 0, hj => simp at hj; subst hj; simpa using h0
end Go.Proofs.YtejccafolfeabaaGreatDoor

/-
  Ranges over a function: the two laws of Derived.RangeFuncNested where the assign code only sets slots: the frame that the body begins with is said by what it does to the loop's frame.
-/
namespace Go.Proofs.YtejccafolfeabaaGreatDoor
open Go.RowKit

section
variable {P : Program} {F : Fence} {n : Nat}
theorem rngH {α : Type} {g : Operand} {ps : Array Tmp} {assign body : Code} {Q : Exit → Act → World → Prop} {a : Act} {w : World}
    (hro : F.round = none) (h1 : 1 ≤ n) {gf : Nat} {lb : Array Value} (hg : a.eval g = .func (.func gf) #[] lb) (hFg : F.fn gf) (eg : ∀ args w, (callFunc gf args).run P w = .ok (.enter gf args) w)
    {encs : α → Array Value} {Kp : World → World → Prop} {S Sp : List α → Prop} {N : Nat} {w0 : World} (hseq : SeqStopsK F (n - 1) P gf lb encs Kp S Sp N w0)
    (hKt : ∀ {A B C : World}, Kp A B → Kp B C → Kp A C) (hKb : ∀ (W : World) (l : Nat) (o o' : Obj), w.heap.size ≤ l → W.heap[l]? = some o → o.isCells = false → o.isWalk = false → Kp W (W.putObj l o')) (hb0 : Below w0.heap.size w0 w) (hps : ∀ x, (encs x).size = ps.size) (hKr : ∀ W, Kp W W)
    (I : List α → World → Prop) (Ix : Code → List α → World → Prop) (hI : OwnFrom w.heap.size I) (hIx : ∀ c, OwnFrom w.heap.size (Ix c)) (h0 : I [] w) (f : Array Value → α → Array Value)
    (hassign : ∀ (l : Nat) (x : α) (W : World) (K : Act → World → Prop), K { tmps := f a.tmps x, defers := [] } W →
      assign.wpIn (F.inRound l) (n - 1 - 1) P (Exit.then K (fun _ _ _ => False)) { tmps := (ps.zip (encs x)).foldl (fun t (p, v) => t.setIfInBounds p v) a.tmps, defers := [] } W)
    (hbody : ∀ (l : Nat) (pre : List α) (x : α) (W : World), w.heap.size ≤ l → (∃ r, W.heap[l]? = some (.loop r)) → I pre W → pre.length < N → body.wpIn (F.inRound l) (n - 1 - 1) P (ownPostG w.heap.size Kp I Ix (pre ++ [x]) W) { tmps := f a.tmps x, defers := [] } W)
    (hdone : ∀ (D : Nat) (xs : List α) (W : World), w.heap.size ≤ D → S xs → I xs W → W.heap[D]? = some (.deferred (some [])) → Q .normal { a with defers := { target := .collected D, args := #[] } :: a.defers } W)
    (hstop : ∀ (D : Nat) (c : Code) (pre : List α) (W : World), w.heap.size ≤ D → Sp pre → Ix c pre W → W.heap[D]? = some (.deferred (some [])) → c.wpIn F n P Q { a with defers := { target := .collected D, args := #[] } :: a.defers } W) :
    (Code.rangeFunc g ps assign body).wpIn F n P Q a w :=
  wpIn_rangeFunc_ownH hro h1 hg hFg eg hseq (fun h k => hKt h k) hKb hb0 hps I Ix hI hIx h0 (fun x a' _ => a' = { tmps := f a.tmps x, defers := [] }) (fun _ _ _ _ _ _ hs _ _ => hs)
    (fun l _ x W K hi hK => hassign l x W K (hK _ _ (KeepsFrom.refl _ _) (hKr W) hi rfl)) (fun l pre x a' W hl hr hi e => by subst e; exact hbody l pre x W hl hr hi) hdone hstop
theorem rngN {α : Type} {g : Operand} {ps : Array Tmp} {assign body : Code} {Q : Exit → Act → World → Prop} {a : Act} {w : World}
    {l₀ : Nat} {r₀ : Loop} (hro : F.round = some l₀) (hl₀ : w.heap[l₀]? = some (.loop r₀)) (h1 : 1 ≤ n) {gf : Nat} {lb : Array Value} (hg : a.eval g = .func (.func gf) #[] lb) (hFg : F.fn gf) (eg : ∀ args w, (callFunc gf args).run P w = .ok (.enter gf args) w)
    {encs : α → Array Value} {Kp : World → World → Prop} {S Sp : List α → Prop} {N : Nat} {w0 : World} (hseq : SeqStopsK F (n - 1) P gf lb encs Kp S Sp N w0)
    (hKt : ∀ {A B C : World}, Kp A B → Kp B C → Kp A C) (hKb : ∀ (W : World) (l : Nat) (o o' : Obj), w.heap.size ≤ l → W.heap[l]? = some o → o.isCells = false → o.isWalk = false → Kp W (W.putObj l o')) (hb0 : Below w0.heap.size w0 w) (hps : ∀ x, (encs x).size = ps.size) (hKr : ∀ W, Kp W W)
    (I : List α → World → Prop) (Ix : Code → List α → World → Prop) (hI : OwnFrom w.heap.size I) (hIx : ∀ c, OwnFrom w.heap.size (Ix c)) (h0 : I [] w) (f : Array Value → α → Array Value)
    (hassign : ∀ (l : Nat) (x : α) (W : World) (K : Act → World → Prop), K { tmps := f a.tmps x, defers := [] } W →
      assign.wpIn (F.inRound l) (n - 1 - 1) P (Exit.then K (fun _ _ _ => False)) { tmps := (ps.zip (encs x)).foldl (fun t (p, v) => t.setIfInBounds p v) a.tmps, defers := [] } W)
    (hbody : ∀ (l : Nat) (pre : List α) (x : α) (W : World), w.heap.size ≤ l → (∃ r, W.heap[l]? = some (.loop r)) → I pre W → pre.length < N → body.wpIn (F.inRound l) (n - 1 - 1) P (ownPostG w.heap.size Kp I Ix (pre ++ [x]) W) { tmps := f a.tmps x, defers := [] } W)
    (hdone : ∀ (xs : List α) (W : World), S xs → I xs W → Q .normal a W)
    (hstop : ∀ (c : Code) (pre : List α) (W : World), Sp pre → Ix c pre W → c.wpIn F n P Q a W) :
    (Code.rangeFunc g ps assign body).wpIn F n P Q a w :=
  wpIn_rangeFunc_ownN hro hl₀ h1 hg hFg eg hseq (fun h k => hKt h k) hKb hb0 hps I Ix hI hIx h0 (fun x a' _ => a' = { tmps := f a.tmps x, defers := [] }) (fun _ _ _ _ _ _ hs _ _ => hs)
    (fun l _ x W K hi hK => hassign l x W K (hK _ _ (KeepsFrom.refl _ _) (hKr W) hi rfl)) (fun l pre x a' W hl hr hi e => by subst e; exact hbody l pre x W hl hr hi) hdone hstop
end
end Go.Proofs.YtejccafolfeabaaGreatDoor

/-
  runes.Count, At, Index.
-/
namespace Go.Proofs.YtejccafolfeabaaGreatDoor
open Go.RowKit
end Go.Proofs.YtejccafolfeabaaGreatDoor

/-
  runes.Runs: the iterator over the runs of a text.
-/
namespace Go.Proofs.YtejccafolfeabaaGreatDoor
open Go.RowKit Go.Shelf
attribute [local go_sem] Oper.semAt_some

/-- What lies from block m on and below block n stands as it stood. -/
structure Mid (m n : Nat) (W W' : World) : Prop where
  size : W.heap.size ≤ W'.heap.size
  block : ∀ k, m ≤ k → k < n → W'.heap[k]? = W.heap[k]?
theorem Mid.refl (m n : Nat) (W : World) : Mid m n W W := ⟨Nat.le_refl _, fun _ _ _ => rfl⟩
theorem Mid.trans {m n : Nat} {A B C : World} (h : Mid m n A B) (k : Mid m n B C) : Mid m n A C := ⟨Nat.le_trans h.size k.size, fun i h1 h2 => (k.block i h1 h2).trans (h.block i h1 h2)⟩
theorem Mid.of_below {m n : Nat} {A B : World} (h : RowKit.Below A.heap.size A B) (hn : n ≤ A.heap.size) : Mid m n A B := ⟨h.size, fun i _ h2 => h.block i (by omega)⟩
theorem Mid.of_belowB {m n b : Nat} {A B : World} (h : RowKit.Below b A B) (hn : n ≤ b) : Mid m n A B := ⟨h.size, fun i _ h2 => h.block i (by omega)⟩
theorem Mid.setCell {m n : Nat} {A B : World} (h : Mid m n A B) {p : Addr} (hp : p.block < m ∨ n ≤ p.block) (u : Value) : Mid m n A (B.setCell p u) :=
  ⟨by simpa [World.setCell] using h.size, fun i h1 h2 => (Below.heap_setCell B p u i (by omega)).trans (h.block i h1 h2)⟩
theorem Mid.alloc {m n : Nat} {A B : World} (h : Mid m n A B) (hn : n ≤ B.heap.size) (o : Obj) : Mid m n A (B.alloc o) := h.trans (Mid.of_below ((RowKit.Below.refl _ _).alloc (Nat.le_refl _) o) hn)
theorem Mid.drewN {m n : Nat} {A B : World} (h : Mid m n A B) (q : Nat) : Mid m n A (B.drewN q) := ⟨h.size, h.block⟩
theorem Mid.cell {m n : Nat} {A B : World} (h : Mid m n A B) {p : Addr} {v : Value} (hv : A.cell? p = some v) (h1 : m ≤ p.block) (h2 : p.block < n) : B.cell? p = some v :=
  (World.cell?_of_block (h.block p.block h1 h2)).trans hv
theorem Rd.mid {m n s : Nat} {w w' : World} {A : Option Addr} {cs : List (List Value)} (h : Rd w s A cs) (hb : Mid m n w w') (hA : ∀ a, A = some a → m ≤ a.block ∧ a.block < n) : Rd w' s A cs :=
  h.keep fun b off i _ ha hp => hb.cell (p := ⟨b, i, none⟩) hp (hA ⟨b, off, none⟩ ha).1 (hA ⟨b, off, none⟩ ha).2
/-- What a round that goes on keeps for an iterator: what lies from m on and below n, and iterators. -/
def Kp (m n : Nat) (W W' : World) : Prop := Mid m n W W' ∧ KeepsWalks W W'
theorem Kp.trans {m n : Nat} {A B C : World} (h : Kp m n A B) (k : Kp m n B C) : Kp m n A C := ⟨h.1.trans k.1, h.2.trans k.2⟩
theorem Kp.put {m n : Nat} {w : World} (hn : n ≤ w.heap.size) (W : World) (l : Nat) (o o' : Obj) (hl : w.heap.size ≤ l) (h : W.heap[l]? = some o) (hc : o.isCells = false) (hw : o.isWalk = false) : Kp m n W (W.putObj l o') :=
  ⟨⟨by simp, fun k _ hk => World.putObj_heap_other (by omega)⟩, walksK_b W l o o' hl h hc hw⟩
theorem Kp.refl (m n : Nat) (W : World) : Kp m n W W := ⟨Mid.refl _ _ _, KeepsWalks.refl _⟩
theorem grown_of_below {w w' : World} (h : RowKit.Below w.heap.size w w') : w.grownBy w' none := ⟨h.os, h.tape, h.output, h.size, fun k hk _ => h.block k hk⟩
theorem grown_iterAt (w : World) (k : Nat) (s : ByteArray) (p : Nat) : w.grownBy (w.iterAt k s p) (some k) :=
  ⟨rfl, rfl, rfl, by rw [Lib.iterAt_size]; exact Nat.le_refl _, fun j _ hj => Lib.iterAt_other w k j s p (fun e => hj (by rw [e]))⟩
theorem abides_below {β : Type} {B : Nat} {J : β → World → Prop} (h : AbidesFrom B J) {x : β} {w w' : World} (hx : J x w) (hb : RowKit.Below w.heap.size w w') : J x w' := h x w w' none hx (grown_of_below hb) (fun _ e => by cases e)
theorem abides_iterAt {β : Type} {B : Nat} {J : β → World → Prop} (h : AbidesFrom B J) {x : β} {w : World} (hx : J x w) {k : Nat} {s : ByteArray} {p : Nat} (hk : w.heap[k]? = some (.stringIter s p)) (hB : B ≤ k) (p' : Nat) : J x (w.iterAt k s p') :=
  h x w _ (some k) hx (grown_iterAt w k s p') (fun r e => by cases e; exact ⟨hB, _, hk, rfl⟩)

def curV : Option Nat → Int
  | none => -1
  | some a => a
/-- How far the runs have come. -/
def RunsAt (s : ByteArray) (set : List (Int × Int)) (f p : Nat) (cur : Option Nat) (pre : List (Nat × Nat)) : Prop :=
  pre ++ runsGo (hasB set) s.size cur (runesGo s f p) = runsP s set ∧ s.size ≤ p + f ∧ p ≤ s.size ∧ ∀ a, cur = some a → a < p
section
variable {s : ByteArray} {set : List (Int × Int)} {f p : Nat} {cur : Option Nat} {pre : List (Nat × Nat)} {R W : Nat}
theorem runsAt_go (h : RunsAt s set f p cur pre) (hp : p < s.size) (hd : Utf8.decode s p = (R, W)) : ∃ g, f = g + 1 ∧ pre ++ runsGo (hasB set) s.size cur ((R, p, p + W) :: runesGo s g (p + W)) = runsP s set := by
  obtain ⟨g, rfl, hg⟩ := runesGo_step (s := s) (f := f) hp h.2.1
  rw [hd] at hg
  exact ⟨g, rfl, by rw [← h.1, hg]⟩
theorem runsAt_in (h : RunsAt s set f p none pre) (hp : p < s.size) (hd : Utf8.decode s p = (R, W)) (hw : 1 ≤ W ∧ p + W ≤ s.size) (hh : hasB set R = true) : ∃ g, RunsAt s set g (p + W) (some p) pre := by
  obtain ⟨g, rfl, hg⟩ := runsAt_go h hp hd
  rw [runsGo, if_pos hh] at hg
  exact ⟨g, hg, by have := h.2.1; omega, hw.2, fun a ha => by cases ha; omega⟩
theorem runsAt_out (h : RunsAt s set f p none pre) (hp : p < s.size) (hd : Utf8.decode s p = (R, W)) (hw : 1 ≤ W ∧ p + W ≤ s.size) (hh : hasB set R = false) : ∃ g, RunsAt s set g (p + W) none pre := by
  obtain ⟨g, rfl, hg⟩ := runsAt_go h hp hd
  rw [runsGo, if_neg (by rw [hh]; exact Bool.false_ne_true)] at hg
  exact ⟨g, hg, by have := h.2.1; omega, hw.2, fun a ha => by cases ha⟩
theorem runsAt_on {a : Nat} (h : RunsAt s set f p (some a) pre) (hp : p < s.size) (hd : Utf8.decode s p = (R, W)) (hw : 1 ≤ W ∧ p + W ≤ s.size) (hh : hasB set R = true) : ∃ g, RunsAt s set g (p + W) (some a) pre := by
  obtain ⟨g, rfl, hg⟩ := runsAt_go h hp hd
  rw [runsGo, if_pos hh] at hg
  exact ⟨g, hg, by have := h.2.1; omega, hw.2, fun b hb => by have := h.2.2.2 b hb; omega⟩
theorem runsAt_off {a : Nat} (h : RunsAt s set f p (some a) pre) (hp : p < s.size) (hd : Utf8.decode s p = (R, W)) (hw : 1 ≤ W ∧ p + W ≤ s.size) (hh : hasB set R = false) :
    (∃ g, RunsAt s set g (p + W) none (pre ++ [(a, p)])) ∧ pre ++ [(a, p)] <+: runsP s set := by
  obtain ⟨g, rfl, hg⟩ := runsAt_go h hp hd
  rw [runsGo, if_neg (by rw [hh]; exact Bool.false_ne_true)] at hg
  refine ⟨⟨g, by rw [← hg]; simp, by have := h.2.1; omega, hw.2, fun a ha => by cases ha⟩, ⟨_, by rw [← hg]; simp; rfl⟩⟩
theorem runsAt_end (h : RunsAt s set f p none pre) (hp : ¬ p < s.size) : pre = runsP s set := by
  have := h.1
  rw [runesGo_end (by omega), runsGo, List.append_nil] at this
  exact this
theorem runsAt_last {a : Nat} (h : RunsAt s set f p (some a) pre) (hp : ¬ p < s.size) : pre ++ [(a, s.size)] = runsP s set := by
  have := h.1
  rw [runesGo_end (by omega), runsGo] at this
  exact this
end
def encP (x : Nat × Nat) : Array Value := #[.int .i64 x.1, .int .i64 x.2]

/-- A piece of a text. -/
abbrev Span (s : ByteArray) := { x : Nat × Nat // x.1 < x.2 ∧ x.2 ≤ s.size }
theorem runsGo_bd {h : Int → Bool} {z : Nat} : ∀ (l : List (Nat × Nat × Nat)) (cur : Option Nat) (_ : ∀ x ∈ l, x.2.1 < x.2.2 ∧ x.2.2 ≤ z) (_ : ∀ a, cur = some a → a < z) (_ : ∀ a, cur = some a → ∀ x ∈ l, a < x.2.1) (_ : l.Pairwise fun x y => x.2.1 < y.2.1), ∀ y ∈ runsGo h z cur l, y.1 < y.2 ∧ y.2 ≤ z
  | [], none, _, _, _, _, y, hy => by simp [runsGo] at hy
  | [], some a, _, ha, _, _, y, hy => by
    simp [runsGo] at hy; subst hy; have := ha a rfl; simp only; omega
  | x :: l, none, hb, _, _, hp, y, hy => by
    have hb' : ∀ x ∈ l, x.2.1 < x.2.2 ∧ x.2.2 ≤ z := fun q hq => hb q (by simp [hq])
    have hx := hb x (by simp)
    have hp' := List.pairwise_cons.1 hp
    rw [runsGo] at hy
    split at hy
    · exact runsGo_bd l (some x.2.1) hb' (fun a ha => by cases ha; omega) (fun a ha q hq => by cases ha; exact hp'.1 q hq) hp'.2 y hy
    · exact runsGo_bd l none hb' (fun a ha => by cases ha) (fun a ha => by cases ha) hp'.2 y hy
  | x :: l, some a, hb, ha, hc, hp, y, hy => by
    have hb' : ∀ x ∈ l, x.2.1 < x.2.2 ∧ x.2.2 ≤ z := fun q hq => hb q (by simp [hq])
    have hx := hb x (by simp)
    have hp' := List.pairwise_cons.1 hp
    rw [runsGo] at hy
    split at hy
    · exact runsGo_bd l (some a) hb' ha (fun b hbb q hq => hc b hbb q (by simp [hq])) hp'.2 y hy
    · rcases List.mem_cons.1 hy with rfl | hy
      · have := hc a rfl x (by simp); simp only; omega
      · exact runsGo_bd l none hb' (fun a ha => by cases ha) (fun a ha => by cases ha) hp'.2 y hy
theorem runesGo_pair {s : ByteArray} : ∀ (f a : Nat), (runesGo s f a).Pairwise fun x y => x.2.1 < y.2.1
  | 0, a => by simp [runesGo]
  | f + 1, a => by
    rw [runesGo]
    split
    · rename_i hlt
      have hd := dec_bd s a hlt
      refine List.pairwise_cons.2 ⟨fun x hx => ?_, runesGo_pair f _⟩
      have := runesGo_bd f _ x hx
      simp only; omega
    · simp
theorem runsP_bd (s : ByteArray) (set : List (Int × Int)) : ∀ y ∈ runsP s set, y.1 < y.2 ∧ y.2 ≤ s.size :=
  runsGo_bd _ _ (fun x hx => by have := runesP_bd x hx; exact ⟨this.1, this.2.1⟩) (fun a ha => by cases ha) (fun a ha => by cases ha) (runesGo_pair _ _)
theorem runsGo_len {h : Int → Bool} {z : Nat} : ∀ (l : List (Nat × Nat × Nat)) (cur : Option Nat), (runsGo h z cur l).length ≤ l.length + 1
  | [], none => by simp [runsGo]
  | [], some a => by simp [runsGo]
  | x :: l, none => by
    rw [runsGo]; split
    · have := runsGo_len l (some x.2.1) (h := h) (z := z); simp only [List.length_cons]; omega
    · have := runsGo_len l none (h := h) (z := z); simp only [List.length_cons]; omega
  | x :: l, some a => by
    rw [runsGo]; split
    · have := runsGo_len l (some a) (h := h) (z := z); simp only [List.length_cons]; omega
    · have := runsGo_len l none (h := h) (z := z); simp only [List.length_cons]; omega
theorem runsP_len (s : ByteArray) (set : List (Int × Int)) : (runsP s set).length ≤ s.size + 1 := by
  have h1 := runsGo_len (h := hasB set) (z := s.size) (runesP s) none
  have h2 := runesP_len s
  unfold runsP; omega

/-- What the iterator's boxes hold. -/
def RunsIt (w : World) (s : ByteArray) (set : List (Int × Int)) (m bs bset : Nat) : Prop :=
  ∃ A na ca, w.cell? ⟨bs, 0, none⟩ = some (.string s) ∧ w.cell? ⟨bset, 0, none⟩ = some (.slice A na ca) ∧ Rd w 2 A (set.map encR) ∧ set.length = na ∧ na ≤ 4000000 ∧ m ≤ bs ∧ m ≤ bset ∧ ∀ a, A = some a → m ≤ a.block ∧ a.block < w.heap.size
theorem RunsIt.lt {w : World} {s : ByteArray} {set : List (Int × Int)} {m bs bset : Nat} (h : RunsIt w s set m bs bset) : m ≤ w.heap.size := by
  obtain ⟨A, na, ca, h1, _, _, _, _, h6, _⟩ := h
  have := cell_lt h1; simp at this; omega
theorem RunsIt.more {w : World} {s : ByteArray} {set : List (Int × Int)} {m m' bs bset : Nat} (h : RunsIt w s set m bs bset) (hm : m' ≤ m) : RunsIt w s set m' bs bset := by
  obtain ⟨A, na, ca, h1, h2, h3, h4, h5, h6, h7, h8⟩ := h
  exact ⟨A, na, ca, h1, h2, h3, h4, h5, by omega, by omega, fun a ha => ⟨by have := (h8 a ha).1; omega, (h8 a ha).2⟩⟩
theorem not_row {w : World} {row : Option Nat} {b : Nat} {o : Obj} (hb : w.heap[b]? = some o) (hc : o.isCells = true) (hr : ∀ r, row = some r → ∃ o : Obj, w.heap[r]? = some o ∧ o.isCells = false) : some b ≠ row := by
  rintro rfl
  obtain ⟨o', h1, h2⟩ := hr b rfl
  rw [hb] at h1; cases h1; rw [hc] at h2; cases h2
theorem Blk.kept {w w' : World} {row : Option Nat} {g : Nat} {t : TypeId} {cs : Array Value} (h : Blk w g t cs) (hg : w.grownBy w' row) (hr : ∀ r, row = some r → ∃ o : Obj, w.heap[r]? = some o ∧ o.isCells = false) : Blk w' g t cs := h.grown hg (not_row h rfl hr)
theorem RunsIt.mid {w w' : World} {s : ByteArray} {set : List (Int × Int)} {m bs bset : Nat} (h : RunsIt w s set m bs bset) (hb : Mid m w.heap.size w w') : RunsIt w' s set m bs bset := by
  obtain ⟨A, na, ca, h1, h2, h3, h4, h5, h6, h7, h8⟩ := h
  exact ⟨A, na, ca, hb.cell h1 h6 (cell_lt h1), hb.cell h2 h7 (cell_lt h2), h3.mid hb h8, h4, h5, h6, h7, fun a ha => ⟨(h8 a ha).1, Nat.lt_of_lt_of_le (h8 a ha).2 hb.size⟩⟩
theorem RunsIt.below {w w' : World} {s : ByteArray} {set : List (Int × Int)} {m bs bset : Nat} (h : RunsIt w s set m bs bset) (hb : RowKit.Below w.heap.size w w') : RunsIt w' s set m bs bset := h.mid (Mid.of_below hb (Nat.le_refl _))
end Go.Proofs.YtejccafolfeabaaGreatDoor

/-
  props: Each of a nil database, Cross of two nil ones, walked.
-/
namespace Go.Proofs.YtejccafolfeabaaGreatDoor
open Go.RowKit Go.Shelf Go.Maps
attribute [local go_sem] Oper.semAt_some

/-- What the iterator's boxes hold of a nil database. -/
def EachNil (w : World) (bd : Nat) : Prop := w.cell? ⟨bd, 0, none⟩ = some (.pointer none)
set_option maxRecDepth 100000 in
theorem wEach_nil (s : ByteArray) (w : World) : Calls Tryz.prog 29 #[.pointer none, .string s] w fun e w' => ∃ bd bs, e = .returned (.func (.func 56) #[] #[.pointer (some ⟨bd, 0, none⟩), .pointer (some ⟨bs, 0, none⟩)]) ∧ EachNil w' bd ∧ Below w.heap.size w w' := by
  go_enter Tryz.func29, Tryz.ntmps29
  go_wp2
  go_ret
  exact ⟨_, _, rfl, cell_keep ((Blk.new w 25 #[.pointer none]).cell 0) ((Below.refl _ _).alloc (Nat.le_refl _) _), ((Below.refl _ _).alloc (Nat.le_refl _) _).alloc (by simp) _⟩
set_option maxRecDepth 100000 in
theorem wCross_nil (w : World) : Calls Tryz.prog 31 #[.pointer none, .pointer none] w fun e w' => e = .returned (.tuple #[.pointer none, .int .i64 0]) ∧ w = w' := by
  go_enter Tryz.func31, Tryz.ntmps31
  go_wp2
  go_ret2
  exact ⟨rfl, rfl⟩
set_option maxRecDepth 100000 in
theorem eachNil_stops (n : Nat) (w w0 : World) (bd bs : Nat) (hw : RowKit.Below w.heap.size w w0) (h : EachNil w bd) :
    SeqStopsK Fence.wide n Tryz.prog 56 #[.pointer (some ⟨bd, 0, none⟩), .pointer (some ⟨bs, 0, none⟩)] (fun _ : Unit => #[Value.int .i64 0, .int .i64 0]) (RowKit.Below 0) (fun ys => ys = []) (fun _ => False) 0 w0 := by
  intro l J Jx W hW hJ _ _ h0
  have hwW : RowKit.Below w.heap.size w W := hw.trans (hW.mono hw.size)
  have hc : W.cell? ⟨bd, 0, none⟩ = some (.pointer none) := cell_keep h hwW
  have hJa : J [] (W.alloc (.cells #[.func (.yield l) #[] #[]] 96)) := abides_below hJ h0 ((RowKit.Below.refl _ _).alloc (Nat.le_refl _) _)
  have hca := cell_keep hc ((RowKit.Below.refl W.heap.size W).alloc (Nat.le_refl _) (.cells #[.func (.yield l) #[] #[]] 96))
  refine callsIn_of_wp_marks Tryz.func56 rfl trivial ?_ rfl
  simp only [Tryz.ntmps56, List.size_toArray, List.length_cons, List.length_nil, Nat.reduceAdd, Nat.reduceSub, Array.replicate_succ, Array.replicate_zero, List.push_toArray, List.append_toArray, List.nil_append, List.cons_append]
  gi_wp2
  exact ⟨_, results_none rfl _ _ _, ⟨_, rfl⟩, hJa⟩
end Go.Proofs.YtejccafolfeabaaGreatDoor

/-
  kerflaw04.PropsNil, walked.
-/
namespace Go.Proofs.YtejccafolfeabaaGreatDoor
open Go.RowKit Go.Shelf Go.Maps
attribute [local go_sem] Oper.semAt_some

theorem res_cell0 (w : World) (b : Nat) (tmps : Array Value) (ht : tmps.getD 0 undef = .pointer (some ⟨b, 0, none⟩)) {v : Bool} (hc : w.cell? ⟨b, 0, none⟩ = some (.bool v)) : (results Tryz.f9 tmps).run Tryz.prog w = .ok (.bool v) w := by
  have ht' : tmps[0]?.getD undef = .pointer (some ⟨b, 0, none⟩) := by simpa [Array.getD_eq_getD_getElem?] using ht
  simp [results, Tryz.results9, go_sem, ht', hc]
theorem seqii_nil (fn : Fn) (first captured : Array Value) (W : World) : (binOp .eql 50 (.func fn first captured) .nilFunc).run Tryz.prog W = .ok (.bool false) W := by kernel_rfl
set_option maxRecDepth 100000 in
set_option maxHeartbeats 4000000 in
theorem qPropsNil_any (w : World) (hE : Env w) : Calls Tryz.prog 9 #[] w fun e w' => e = .returned (.bool true) ∧ RowKit.Below w.heap.size w w' := by
  have HB : RowKit.Below w.heap.size w (w.alloc (.cells #[.bool false] 4)) := (RowKit.Below.refl _ _).alloc (Nat.le_refl _) _
  have B0 : Blk (w.alloc (.cells #[.bool false] 4)) w.heap.size 4 #[.bool false] := Blk.new _ _ _
  refine (callsIn_wide (n := 6)).1 ?_
  refine callsIn_of_wp_marks Tryz.func9 rfl trivial ?_ rfl
  simp only [Tryz.ntmps9, List.size_toArray, List.length_nil, Nat.reduceSub, Array.replicate_succ, Array.replicate_zero, List.push_toArray, List.append_toArray, List.nil_append, List.cons_append]
  refine wpIn_wide.2 ?_
  go_wp2_with fail
  generalize (w.alloc (.cells #[.bool false] 4)) = w0 at HB B0 ⊢
  refine (wClass_nil _ w0).mono ?_
  rintro e w' ⟨rfl, rfl⟩
  go_wp2_with fail
  refine (wCross_nil w').mono ?_
  rintro e w1 ⟨rfl, rfl⟩
  go_wp2_with fail
  refine (wEach_nil _ w').mono ?_
  rintro e w2 ⟨bd, bs, rfl, hit, hb⟩
  have B2 := B0.below hb
  replace HB := below_two HB hb
  have hz0 := B0.lt
  have hnil := seqii_nil (.func 56) #[] #[.pointer (some ⟨bd, 0, none⟩), .pointer (some ⟨bs, 0, none⟩)]
  clear hit B0 hb
  go_wp2_with fail
  refine (wEach_nil _ w2).mono ?_
  rintro e w3 ⟨bd2, bs2, rfl, hit, hb⟩
  have B3 := B2.below hb
  replace HB := below_two HB hb
  have hz2 := B2.lt
  clear B2 hb hnil
  go_wp2_with fail
  refine (wpIn_wide (n := 6)).1 ?_
  refine rngH rfl (by decide) (gf := 56) (lb := #[.pointer (some ⟨bd2, 0, none⟩), .pointer (some ⟨bs2, 0, none⟩)]) rfl trivial (enters_of Tryz.func56 (by kernel_rfl) rfl)
    (eachNil_stops 5 w3 w3 bd2 bs2 (RowKit.Below.refl _ _) hit) (fun h k => h.trans k) (belowK_b (Nat.zero_le _)) (RowKit.Below.refl _ _) (fun _ => rfl) (fun _ => RowKit.Below.refl _ _)
    (fun (_ : List Unit) W => Blk W w.heap.size 4 #[.bool false] ∧ RowKit.Below w.heap.size w W)
    (fun _ _ _ => False)
    (OwnFrom.and (Go.Own.from (fun s A B row hs hg hr => hs.kept hg hr) _) (ownFrom_below (Nat.le_refl _) (by have := HB.size; omega)))
    (fun _ _ _ _ _ hs _ _ => hs)
    ⟨B3, HB⟩
    (fun T _ => (#[20, 21].zip #[Value.int .i64 0, .int .i64 0]).foldl (fun t (p, v) => t.setIfInBounds p v) T) ?assign ?body ?done ?stop
  case assign =>
    intro l x W K hK
    simp only [List.zip_toArray, List.zip_cons_cons, List.zip_nil_right, List.foldl_toArray', List.foldl_cons, List.foldl_nil, List.setIfInBounds_toArray, List.set_cons_succ, List.set_cons_zero] at hK ⊢
    gi_wp2
    exact hK
  case body =>
    rintro l pre x W _ _ _ h
    exact absurd h (by omega)
  case done =>
    rintro D ys W hD hys ⟨BW, hbW⟩ hK
    have hz3 := B3.lt
    clear B3 hit
    go_wp2_with fail
    refine (qlive_any W (hE.below hbW)).mono ?_
    rintro e wa ⟨rfl, hb⟩
    have BA := BW.below hb
    have hKa := (hb.block D (Array.getElem?_eq_some_iff.1 hK).1).trans hK
    replace hbW := below_two hbW hb
    clear BW hb hK
    go_wp2_with fail
    refine (wGet_nil _ wa).mono ?_
    rintro e w' ⟨rfl, rfl⟩
    go_wp2_with fail
    refine (wNames_nil w').mono ?_
    rintro e w' ⟨rfl, rfl⟩
    go_wp2_with fail
    refine (wSet_nil _ w').mono ?_
    rintro e w' ⟨rfl, rfl⟩
    go_wp2_with fail
    refine (wRanged_nil w').mono ?_
    rintro e w' ⟨rfl, rfl⟩
    go_wp2_with fail
    refine (wOf_nil _ w').mono ?_
    rintro e w' ⟨rfl, rfl⟩
    go_wp2_with fail
    refine (wText_nil w').mono ?_
    rintro e w' ⟨rfl, rfl⟩
    have hse : (bytesOf []).toList.isEmpty = true := by rw [ByteArray.toList_eq]; rfl
    have c0 := BA.cell 0
    have f0 := BA.frozen 0
    simp only [List.getElem?_toArray, List.getElem?_cons_zero] at c0
    go_wp2_with (go_at_call 15; refine (qnum_any _ _).mono ?_; rintro e w' ⟨rfl, rfl⟩)
    have BV := BA.set_ 0 (.bool true)
    have hK3 : (w'.setCell ⟨w.heap.size, 0, none⟩ (.bool true)).heap[D]? = some (.deferred (some [])) := (Below.heap_setCell w' ⟨w.heap.size, 0, none⟩ _ D (by simp only; omega)).trans hKa
    have c7 := BV.cell 0
    simp only [List.getElem?_toArray, List.getElem?_cons_zero, List.setIfInBounds_toArray, List.set_cons_zero] at c7
    have HB9 := hbW.setCell (p := ⟨w.heap.size, 0, none⟩) (Nat.le_refl _) (.bool true)
    refine ⟨by simp, .inl ⟨_, _, rfl, run_takeDeferred hK3, ?_⟩⟩
    refine ⟨_, res_cell0 _ w.heap.size _ rfl ((World.cell?_of_block (World.putObj_heap_other (by simp only; omega))).trans c7), rfl, HB9.trans (belowK_b (w := w) (Nat.le_refl _) _ D _ _ (by omega) hK3 rfl rfl)⟩
  case stop =>
    rintro D c pre W _ _ h _
    exact h.elim
end Go.Proofs.YtejccafolfeabaaGreatDoor

