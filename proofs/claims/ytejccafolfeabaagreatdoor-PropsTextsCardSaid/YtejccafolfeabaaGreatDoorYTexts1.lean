/-
  Several texts in one, in their build order: WitP, Post, Rng, RunD, RunT, Wk, Qg, Qt, RngC, Ue, Each, Wl, VP, Vb, Vd, PrintS, Qd, Vi, Vm, Va, Vc, Ve, Vf, Vg, Vh.
-/
import Derived.Test.YtejccafolfeabaaGreatDoorCards
import Derived.Test.YtejccafolfeabaaGreatDoorTie
import Derived.PinnedBridge
import Derived.Lib.LaidIn
import Derived.Lib.LaidU8
import Derived.Lib.LaidTab
import Derived.Lib.LaidCaseMet
import Derived.Shelf.Vars
import Derived.Deep.DeepHandedRow
import Derived.Deep.DeepWitnessRowRef
import Derived.ProofKit
import Derived.Carry
import Derived.ChangeSame
import Derived.OpenShut
import Derived.Deep.SlicePairs
import Derived.SizedLaws
import Derived.ChangeSlices
import Derived.RangeFuncNested
import Derived.RangeFuncLeaves
import Derived.RangeFuncBound
import Derived.RangeFuncCalls
import Derived.Shelf.Abstract
import Derived.Shelf.RegionOpen
import Derived.OwnWalkIn
import Derived.TacticsInMore
import Derived.LoopNIn
import Derived.LoopIn
import Derived.Laws.EntriesVeiled
import Derived.Lib.AppendStr
import Derived.Lib.BufferRead
import Derived.Deep.DeepMust
import Derived.RegionTactic
import Derived.BigRegion
import Derived.Deep.RegionHeld3
import Derived.Test.YtejccafolfeabaaGreatDoorZ1
import Derived.Test.YtejccafolfeabaaGreatDoorZ2
import Derived.Test.YtejccafolfeabaaGreatDoorZ3
import Derived.Test.YtejccafolfeabaaGreatDoorZ4
/-
  WHAT THE LISTED VARIABLES GIVE (the tables of utf8); a world that bears them all, for the witness.
-/
namespace Go.Proofs.YtejccafolfeabaaGreatDoor
open Go.ChangeShapes Go.WideShapes Go.ChangeAt Go.RowKit Go.Lib Go.Shelf

theorem ownK : ownKnob Tryz.prog.godebug = none := by kernel_rfl
set_option maxRecDepth 100000 in
theorem accept_eq : (Rows.laid_unicode_utf8_acceptRanges : DataW Unit) = acceptData := by kernel_rfl
theorem tabs_of_laid {W : World} (hL : laidMetH Tryz.prog Rows.propsNamesRow.laid W) : Tabs W := by
  have h1 := laidMet.reads hL (.tail _ (.tail _ (.tail _ (.tail _ (.tail _ (.tail _ (.tail _ (.head _))))))))
  have h2 := laidMet.reads hL (.tail _ (.tail _ (.tail _ (.head _))))
  rw [show (Rows.laid_unicode_utf8_first : DataW Unit) = firstData from Pinned.utf8First_eq] at h1
  rw [accept_eq] at h2
  exact utf8Tabs_of_reads (ρ := Tryz.lays260_ren) { Tryz.lays260 with } ⟨by kernel_rfl, by kernel_rfl, by kernel_rfl, by kernel_rfl, by kernel_rfl, by kernel_rfl, by kernel_rfl⟩ h1 h2

def deB64 : List Int := [0, 1, 56, 2, 57, 49, 28, 3, 61, 58, 42, 50, 38, 29, 17, 4, 62, 47, 59, 36, 45, 43, 51, 22, 53, 39, 33, 30, 24, 18, 12, 5, 63, 55, 48, 27, 60, 41, 37, 16, 46, 35, 44, 21, 52, 32, 23, 11, 54, 26, 40, 15, 34, 20, 31, 10, 25, 14, 19, 9, 13, 8, 7, 6]
theorem tabB_of_laid {W : World} (hL : laidMetH Tryz.prog Rows.propsNamesRow.laid W) : TabB W := by
  have h := laidMet.reads hL (.tail _ (.head _))
  rw [show (Rows.laid_math_bits_deBruijn64tab : DataW Unit) = tabData .u8 deB64 by kernel_rfl] at h
  obtain ⟨g, t, cs, fuel, p, hg, hty, hvar, hd⟩ := h
  obtain rfl := Option.some.inj ((show Tryz.prog.globalNamed "math/bits.deBruijn64tab" = some 6 by kernel_rfl).symm.trans hg)
  obtain rfl := Option.some.inj ((show (Tryz.prog.globals[(6 : Nat)]?).map (·.type) = some 252 by kernel_rfl).symm.trans hty)
  have hcs := cells_of_tab Tryz.underlying252 Tryz.underlying5 (by kernel_rfl) (by kernel_rfl) hd
  have := World.var?_cell hg hvar 15
  unfold TabB
  rw [this, ← Array.getElem?_toList, hcs]; rfl

theorem env_of_laid {W : World} (hL : laidMetH Tryz.prog Rows.propsNamesRow.laid W) (hS : W.ShapedOpen Tryz.prog) : Env W :=
  ⟨tabs_of_laid hL, cell_of_shapedOpen_int hS (g := 0) (t := 3) (zero := #[.int .i64 0]) (of_decide_eq_true (by kernel_rfl)) (by kernel_rfl) rfl (by kernel_rfl) (by kernel_rfl) Tryz.underlying3, tabB_of_laid hL⟩

/-- THE WITNESS's WORLD: the settled one with three blocks more (the two errors' structs; the rows of the table of cases); the variables hold what their initialisers lay. -/
noncomputable def laidWorld (os : Os) : World :=
  let N := (World.settled Tryz.prog os).heap.size
  let w0 := World.holding Tryz.prog os ⟨#[.cells #[.string ⟨#[118, 97, 108, 117, 101, 32, 111, 117, 116, 32, 111, 102, 32, 114, 97, 110, 103, 101]⟩] 259, .cells #[.string ⟨#[105, 110, 118, 97, 108, 105, 100, 32, 115, 121, 110, 116, 97, 120]⟩] 259, .cells Lib.caseCells5 250], #[], []⟩
  let put (h : Array Obj) (g : Nat) (cs : Array Value) : Array Obj := h.modify g fun
    | .cells _ t frozen => .cells cs t frozen
    | o => o
  let h1 := put w0.heap 1 (firstTab.map fun z => Value.int .u8 z).toArray
  let h2 := put h1 2 ((List.range 16).flatMap fun i => [Value.int .u8 (accLo i), Value.int .u8 (accHi i)]).toArray
  let h3 := put h2 7 #[.iface 257 (.pointer (some ⟨N + 1, 0, none⟩))]
  let h4 := put h3 8 #[.iface 257 (.pointer (some ⟨N, 0, none⟩))]
  let h5 := put h4 4 ((List.range 20).map fun i => Value.int .u64 (10 ^ i : Nat)).toArray
  let h6 := put h5 5 ([0, 1, 28, 2, 29, 14, 24, 3, 30, 22, 20, 15, 25, 17, 4, 8, 31, 27, 13, 23, 21, 19, 16, 7, 26, 12, 18, 6, 11, 5, 10, 9].map fun (z : Int) => Value.int .u8 z).toArray
  let h7 := put h6 6 ([0, 1, 56, 2, 57, 49, 28, 3, 61, 58, 42, 50, 38, 29, 17, 4, 62, 47, 59, 36, 45, 43, 51, 22, 53, 39, 33, 30, 24, 18, 12, 5, 63, 55, 48, 27, 60, 41, 37, 16, 46, 35, 44, 21, 52, 32, 23, 11, 54, 26, 40, 15, 34, 20, 31, 10, 25, 14, 19, 9, 13, 8, 7, 6].map fun (z : Int) => Value.int .u8 z).toArray
  let h8 := put h7 3 #[.slice (some ⟨N + 2, 0, none⟩) Lib.caseA.size Lib.caseA.size]
  { w0 with heap := h8 }
/-- A world in which the variable holds a slice of the table's cells reads as the table: the table's own row of 'laid'. -/
theorem caseIn {P : Program} {ρ : Go.Shelf.Ren} (L : Go.Proofs.Lays.n274 P ρ) (t206 : P.underlying (ρ.t 206) = some (.array 3 (ρ.t 21))) (X : CaseExtra P ρ) {w : World} (R : Nat) (t : TypeId) (hgR : ρ.g 13 ≠ R)
    (hvar : w.heap[ρ.g 13]? = some (.cells #[.slice (some ⟨R, 0, none⟩) caseA.size caseA.size] (ρ.t 162) (0, 0)))
    (hblk : w.heap[R]? = some (.cells caseCells5 t (0, 0))) : LaidIn P w [("unicode.CaseRanges", caseData)] [ρ.g 13, R] := by
  have hT := caseTab_of_block hblk
  have hread := case_slice_reads L t206 X hT caseA_wf (by rw [caseA_size]; unfold maxLen; omega) 0
  rw [case_rows_data] at hread
  have hv : w.var? P "unicode.CaseRanges" = some #[.slice (some ⟨R, 0, none⟩) caseA.size caseA.size] := by simp [World.var?, X.n13, hvar]
  refine LaidIn.one _ X.n13 X.y13 hv hread ?_ (fun b off hp => ?_) (fun x hx => ?_)
  · refine List.nodup_append.2 ⟨row_nodup _ _, row_nodup _ _, ?_⟩
    intro a ha b hb e
    obtain ⟨i, _, rfl⟩ := MemPlace.mem_row.1 ha
    obtain ⟨j, _, rfl⟩ := MemPlace.mem_row.1 hb
    simp at e
    exact hgR e.1
  · rcases List.mem_append.1 hp with hp | hp
    · obtain ⟨i, hi, e⟩ := MemPlace.mem_row.1 hp
      cases e
      refine ⟨⟨_, _, hvar⟩, fun u v hc => ?_⟩
      obtain rfl : i = 0 := by simp at hi; omega
      rw [Lib.cell_of_heap hvar] at hc
      simp at hc
    · obtain ⟨i, hi, e⟩ := MemPlace.mem_row.1 hp
      cases e
      refine ⟨⟨_, _, hblk⟩, fun u v hc => ?_⟩
      obtain ⟨c0, c1, c2, c3, c4⟩ := hT (i / 5) (by omega)
      have hi5 : 0 + i = 0 + i / 5 * 5 + i % 5 := by omega
      simp only at hc
      rw [hi5] at hc
      have hm : i % 5 < 5 := Nat.mod_lt _ (by omega)
      match hk : i % 5, hm with
      | 0, _ => rw [hk, Nat.add_zero, c0] at hc; cases hc
      | 1, _ => rw [hk, c1] at hc; cases hc
      | 2, _ => rw [hk, c2] at hc; cases hc
      | 3, _ => rw [hk, c3] at hc; cases hc
      | 4, _ => rw [hk, c4] at hc; cases hc
  · rcases List.mem_append.1 hx with hx | hx
    · obtain ⟨i, _, rfl⟩ := MemPlace.mem_row.1 hx; simp [MemPlace.block]
    · obtain ⟨i, _, rfl⟩ := MemPlace.mem_row.1 hx; simp [MemPlace.block]
/-- The numbers of the table's types here, and its variable's. -/
def renC : Go.Shelf.Ren := ⟨Tryz.lays274_ren.f, Tryz.lays274_ren.t, fun _ => 3⟩
set_option maxRecDepth 1000000 in
theorem laid_in (os : Os) (args : Array Value) : LaidIn Tryz.prog ((laidWorld os).forCall (fun _ _ => 0) ⟨#[], args, []⟩).memory Rows.propsNamesRow.laid ([2, 7, 8, 4, 5, 6, (World.settled Tryz.prog default).heap.size, (World.settled Tryz.prog default).heap.size + 1] ++ ([3, (World.settled Tryz.prog default).heap.size + 2] ++ [1])) := by
  have h1 : LaidIn Tryz.prog ((laidWorld os).forCall (fun _ _ => 0) ⟨#[], args, []⟩).memory (Rows.propsNamesRow.laid.take 6) [2, 7, 8, 4, 5, 6, (World.settled Tryz.prog default).heap.size, (World.settled Tryz.prog default).heap.size + 1] :=
    LaidIn.of_run _ 8 (by kernel_rfl) (by kernel_rfl) (by kernel_rfl) (by kernel_rfl)
  have h2 : LaidIn Tryz.prog ((laidWorld os).forCall (fun _ _ => 0) ⟨#[], args, []⟩).memory [("unicode.CaseRanges", Rows.laid_unicode_CaseRanges)] [3, (World.settled Tryz.prog default).heap.size + 2] := by
    rw [show (Rows.laid_unicode_CaseRanges : DataW Unit) = caseData from Pinned.caseRanges_eq]
    exact caseIn (ρ := renC) { Tryz.lays274 with } (by kernel_rfl) ⟨by kernel_rfl, by kernel_rfl, by kernel_rfl, by kernel_rfl, by kernel_rfl, by kernel_rfl⟩ ((World.settled Tryz.prog default).heap.size + 2) 250 (of_decide_eq_true (by kernel_rfl)) (by kernel_rfl) (by kernel_rfl)
  have h3 : LaidIn Tryz.prog ((laidWorld os).forCall (fun _ _ => 0) ⟨#[], args, []⟩).memory [("unicode/utf8.first", Rows.laid_unicode_utf8_first)] [1] :=
    LaidIn.of_run _ 8 (by kernel_rfl) (by kernel_rfl) (by kernel_rfl) (by kernel_rfl)
  exact LaidIn.append h1 (LaidIn.append h2 h3 (by kernel_rfl)) (by kernel_rfl)
end Go.Proofs.YtejccafolfeabaaGreatDoor

/-
  THE LAST STEP OF A LAW's ROW: it answers true, and nothing that lay has turned; an argument that is a list of ranges, opened. No walk.
-/
namespace Go.Proofs.YtejccafolfeabaaGreatDoor
open Go.ChangeShapes Go.WideShapes Go.ChangeAt Go.RowKit

section
variable {H : Type} {enc : TypeId × Value → H} {P : Program}
theorem trodAll_stays {W W' : World} {sp' : Nat → Bool} (hl : laidOutB P = true) : ∀ {ts : List TypeId} {vs : List Value} {ds : List (DataW H)} {ps : List MemPlace}, (∀ t ∈ ts, P.readableRec t = true ∧ t < P.types.size) →
    DataW.TrodAll enc P W 0 (fun _ => true) true ts vs ds ps → (∀ p ∈ ps, W.sameAt W' p) → (∀ p ∈ ps, sp' p.block = true) → DataW.TrodAll enc P W' 0 sp' true ts vs ds ps
  | [], vs, ds, ps, _, h, _, _ => by
    obtain ⟨rfl, rfl, rfl⟩ := trodAll_nil h
    exact trodAll_mk0
  | t :: ts, vs, ds, ps, ht, h, h1, h2 => by
    obtain ⟨v, vs', d, ds', p, q, rfl, rfl, rfl, h0, hr⟩ := trodAll_cons h
    exact trodAll_cons_mk (WideElems.Trod_stays hl (ht t (by simp)).1 (ht t (by simp)).2 h0 (fun x hx => h1 x (by simp [hx])) (fun x hx => h2 x (by simp [hx])))
      (trodAll_stays hl (fun u hu => ht u (by simp [hu])) hr (fun x hx => h1 x (by simp [hx])) (fun x hx => h2 x (by simp [hx])))
/-- A law that answers true and turns nothing that lay. -/
theorem post_law {f : Func} {s : ChangeSpec} {apart fresh handsOn again : Bool} {W W' : World} {args : Array Value} {ds gs : List (DataW H)} {before : List MemPlace} {tb : TypeId}
    (hl : laidOutB P = true) (hps : (f.params.toList.all fun t => P.readableRec t && decide (t < P.types.size)) = true) (hres : f.resultTypes = #[tb]) (htb : P.underlying tb = some .bool) (hv : s.vars = [])
    (hfn : ∀ (gs' : List (DataW H)), gs' = [] → s.fn H (ds ++ gs') = { results := [.lit (.bool true)], args := ds })
    (hW : DataW.Whole enc P f.params.toList s.vars apart W args.toList ds gs before) (hb : Below W.heap.size W W') :
    s.post enc P f apart fresh handsOn again W args (.bool true) W' := by
  have hlt : ∀ p ∈ before, p.block < W.heap.size := fun p hp => hW.lt p hp
  have hW' := hW
  obtain ⟨p, q, hA, hV, rfl, hfz, hnd⟩ := hW'
  have hA' : DataW.TrodAll enc P W 0 (fun _ => true) true f.params.toList args.toList ds p := hA
  rw [hv] at hV
  obtain ⟨rfl, rfl⟩ := trodVars_none hV
  have hpr : ∀ t ∈ f.params.toList, P.readableRec t = true ∧ t < P.types.size := fun t ht => by
    have := List.all_eq_true.1 hps t ht
    simpa using this
  have hres' : ∀ (b : Nat) (sp : Nat → Bool) (hd : Bool), DataW.TrodAll enc P W' b sp hd f.resultTypes.toList ((Value.bool true).resultList f.resultTypes.size) (s.fn H (ds ++ [])).results [] := fun b sp hd => by
    rw [hres, hfn [] rfl]
    exact trodAll_cons_mk (shut_bool htb _) trodAll_mk0
  have hargs : ∀ sp : Nat → Bool, (∀ x ∈ p ++ [], sp x.block = true) → DataW.TrodAll enc P W' 0 sp true f.params.toList args.toList (s.fn H (ds ++ [])).args p := fun sp hsp => by
    rw [hfn [] rfl]
    exact trodAll_stays hl hpr hA' (fun x hx => hb.same (hlt x (by simp [hx]))) (fun x hx => hsp x (by simp [hx]))
  have hvars : ∀ sp : Nat → Bool, DataW.TrodVars enc P W' sp s.vars (s.fn H (ds ++ [])).vars [] := fun sp => by
    rw [hv, hfn [] rfl]
    exact rfl
  have hold : ∀ x ∈ p ++ [], (fun b => decide (b < W.heap.size)) x.block = true := fun x hx => by simpa using hlt x hx
  refine ⟨ds, [], p ++ [], [], p, [], hW, hres' _ _ _, hargs _ hold, hvars _, World.keptBut_mono (fun x hx => ⟨hx, ?_⟩) (hb.frame (· ∈ p ++ [])), fun _ => ?_⟩
  · simpa using hx
  · refine ⟨?_, _, _, ([] ++ p) ++ [], ⟨[] ++ p, [], trodAll_append (hargs _ (fun _ _ => rfl)) (hres' _ _ _), hvars _, rfl, ?_, ?_⟩, ?_⟩
    · exact ok_one hres rfl (okWide_bool_mk htb _)
    · intro b off hp
      have hin : MemPlace.cell b off ∈ p ++ [] := by simpa using hp
      rw [hb.frozen (hlt _ hin)]
      exact hfz b off hin
    · intro ha
      simpa using hnd ha
    · intro x hx _
      simpa using hx
end

theorem cellsR : Tryz.prog.cellsOf 80 = 2 := by kernel_rfl
theorem cellsI32 : Tryz.prog.cellsOf 21 = 1 := by kernel_rfl
set_option maxRecDepth 100000 in
/-- An argument that is a list of ranges. -/
theorem open_ranges {H : Type} {enc : TypeId × Value → H} {W : World} {r : Reach} {b0 : Nat} {v : Value} {d : DataW H} {p : List MemPlace} (hv : Value.okWide Tryz.prog W r b0 37 v) (hd : DataW.Trod enc Tryz.prog W 0 (fun _ => true) true 37 v d p) :
    ∃ (A : Option Addr) (n c : Nat) (l : List (Int × Int)), v = .slice A n c ∧ Rd W 2 A (l.map encR) ∧ l.length = n ∧ n ≤ maxLen ∧ (n = 0 ∨ ∃ el sp, d = .slice el sp ∧ el.length = n) ∧ ∀ x ∈ l, (-2147483648 ≤ x.1 ∧ x.1 ≤ 2147483647) ∧ (-2147483648 ≤ x.2 ∧ x.2 ≤ 2147483647) := by
  obtain ⟨A, n, c, rfl⟩ := okWide_slice Tryz.underlying37 hv
  obtain ⟨fuel, hf⟩ := hd
  rcases Go.Deep.open_slice_pairs Tryz.underlying37 Tryz.underlying80 cellsR rfl rfl cellsI32 cellsI32 hf with ⟨hc, _⟩ | ⟨a, len, cap, m, k, V0, V1, D0, D1, P0, P1, hc, _, hl, hm, hmm, hxd, hx⟩
  · simp [Value.cells] at hc
    obtain ⟨rfl, rfl, rfl⟩ := hc
    exact ⟨none, 0, 0, [], rfl, Rd.nil_ _ _ _, rfl, by unfold maxLen; omega, Or.inl rfl, by simp⟩
  · simp [Value.cells] at hc
    obtain ⟨rfl, rfl, rfl⟩ := hc
    have hmn : m = c := by simpa using hmm
    have key : ∀ i, i < n → ∃ lo hi : Int, W.cell? (a.add (i * 2)) = some (.int .i32 lo) ∧ W.cell? (a.add (i * 2 + 1)) = some (.int .i32 hi) ∧ (-2147483648 ≤ lo ∧ lo ≤ 2147483647) ∧ (-2147483648 ≤ hi ∧ hi ≤ 2147483647) := by
      intro i hi
      obtain ⟨h0, h1, h2, h3⟩ := hx i (by omega)
      obtain ⟨lo, e0, _, w0⟩ := DataW.trod_int Tryz.underlying21 h2
      obtain ⟨hi', e1, _, w1⟩ := DataW.trod_int Tryz.underlying21 h3
      simp at e0 e1
      rw [e0] at h0; rw [e1] at h1
      exact ⟨lo, hi', h0, h1, bounds_i32 w0, bounds_i32 w1⟩
    obtain ⟨f, hf2⟩ : ∃ f : Nat → Int × Int, ∀ i, i < n → W.cell? (a.add (i * 2)) = some (.int .i32 (f i).1) ∧ W.cell? (a.add (i * 2 + 1)) = some (.int .i32 (f i).2) ∧ (-2147483648 ≤ (f i).1 ∧ (f i).1 ≤ 2147483647) ∧ (-2147483648 ≤ (f i).2 ∧ (f i).2 ≤ 2147483647) :=
      ⟨fun i => if h : i < n then (Classical.choose (key i h), Classical.choose (Classical.choose_spec (key i h))) else (0, 0), fun i hi => by
        simp only [dif_pos hi]
        exact Classical.choose_spec (Classical.choose_spec (key i hi))⟩
    clear key hx
    refine ⟨some a, n, c, (List.range n).map f, rfl, ?_, by simp, by omega, Or.inr ⟨_, _, congrArg Prod.fst hxd, by simp⟩, ?_⟩
    · intro hne
      have hn0 : 0 < n := by
        rcases Nat.eq_zero_or_pos n with h | h
        · subst h; simp at hne
        · exact h
      obtain ⟨b, off, spot⟩ := a
      have hsp : spot = none := by
        have h0 := (hf2 0 hn0).1
        simpa [Addr.add] using World.cell?_spot h0
      subst hsp
      have ea : ∀ q, (⟨b, off, none⟩ : Addr).add q = ⟨b, off + q, none⟩ := fun q => by
        unfold Addr.add; split
        · rename_i hq; subst hq; rfl
        · rfl
      refine ⟨b, off, rfl, fun i j x u hi hj => ?_⟩
      have hin : i < n := by
        have := (List.getElem?_eq_some_iff.1 hi).1
        simpa using this
      have hxe : encR (f i) = x := by
        simp [hin] at hi; exact hi
      subst hxe
      obtain ⟨h0, h1, _⟩ := hf2 i hin
      rw [ea] at h0 h1
      match j, hj with
      | 0, hj => simp [encR] at hj; subst hj; simpa using h0
      | 1, hj => simp [encR] at hj; subst hj; simpa [Nat.add_assoc] using h1
    · intro x hx'
      obtain ⟨i, hi, rfl⟩ := List.mem_map.1 hx'
      have := hf2 i (List.mem_range.1 hi)
      exact ⟨this.2.2.1, this.2.2.2⟩
/-- A list of ranges that the reach holds is no longer than 2^44. -/
theorem sized_ranges {H : Type} {ts : List TypeId} {ds : List (DataW H)} (h : (DataW.weightsEach Tryz.prog ts ds).all (· ≤ reachBytes) = true) {j : Nat} {d : DataW H} {n : Nat} (ht : ts[j]? = some 37) (hd : ds[j]? = some d)
    (hn : n = 0 ∨ ∃ el sp, d = .slice el sp ∧ el.length = n) : n ≤ 17592186044416 := by
  rcases hn with rfl | ⟨el, sp, rfl, rfl⟩
  · omega
  · have h1 := sized_slice h ht hd Tryz.underlying37
    rw [show Tryz.prog.bytesOf 80 = 8 by kernel_rfl] at h1
    have h2 := reachBytes_lt
    simp only [Nat.reducePow] at h2
    omega
set_option maxRecDepth 100000 in
/-- An argument that is a list of runes. -/
theorem open_runes {H : Type} {enc : TypeId × Value → H} {W : World} {r : Reach} {b0 : Nat} {v : Value} {d : DataW H} {p : List MemPlace} (hv : Value.okWide Tryz.prog W r b0 24 v) (hd : DataW.Trod enc Tryz.prog W 0 (fun _ => true) true 24 v d p) :
    ∃ (A : Option Addr) (n c : Nat) (q : List Int), v = .slice A n c ∧ Rd W 1 A (q.map fun r => [.int .i32 r]) ∧ q.length = n ∧ n ≤ maxLen := by
  obtain ⟨A, n, c, rfl⟩ := okWide_slice Tryz.underlying24 hv
  obtain ⟨fuel, hf⟩ := hd
  rcases Go.ChangeShapes.open_ints Tryz.underlying24 Tryz.underlying21 cellsI32 hf with ⟨hc, _⟩ | ⟨a, len, cap, zs, hc, _, hl, hm, hzl, _, hx, _⟩
  · simp [Value.cells] at hc
    obtain ⟨rfl, rfl, rfl⟩ := hc
    exact ⟨none, 0, 0, [], rfl, Rd.nil_ _ _ _, rfl, by unfold maxLen; omega⟩
  · simp [Value.cells] at hc
    obtain ⟨rfl, rfl, rfl⟩ := hc
    have hzc : zs.length = c := by simpa using hzl
    refine ⟨some a, n, c, zs.take n, rfl, ?_, by simp; omega, by omega⟩
    intro hne
    have hn0 : 0 < n := by
      rcases Nat.eq_zero_or_pos n with h | h
      · subst h; simp at hne
      · exact h
    obtain ⟨b, off, spot⟩ := a
    have hsp : spot = none := by
      have h0 := hx 0 (by omega)
      simpa [Addr.add] using World.cell?_spot h0
    subst hsp
    have ea : ∀ q, (⟨b, off, none⟩ : Addr).add q = ⟨b, off + q, none⟩ := fun q => by
      unfold Addr.add; split
      · rename_i hq; subst hq; rfl
      · rfl
    refine ⟨b, off, rfl, fun i j x u hi hj => ?_⟩
    have hin : i < n := by
      have := (List.getElem?_eq_some_iff.1 hi).1
      simp at this; omega
    have hxe : [Value.int .i32 (zs.getD i 0)] = x := by
      rw [List.getElem?_map, List.getElem?_take_of_lt hin] at hi
      rw [List.getD_eq_getElem?_getD]
      rcases hz : zs[i]? with _ | z
      · rw [hz] at hi; simp at hi
      · rw [hz] at hi; simpa using hi
    subst hxe
    have h0 := hx i (by omega)
    rw [ea] at h0
    match j, hj with
    | 0, hj => simp at hj; subst hj; simpa using h0
end Go.Proofs.YtejccafolfeabaaGreatDoor

/-
  Ranges over a function: the two laws of Derived.RangeFuncNested where the assign code only sets slots: the frame that the body begins with is said by what it does to the loop's frame.
-/
namespace Go.Proofs.YtejccafolfeabaaGreatDoor
open Go.RowKit

section
variable {P : Program} {F : Fence} {n : Nat}
theorem rngH {α : Type} {g : Operand} {ps : Array Tmp} {assign body : Code} {Q : Exit → Act → World → Prop} {a : Act} {w : World}
    (hro : F.round = none) (h1 : 1 ≤ n) {gf : Nat} {lb : Array Value} (hg : a.eval g = .func (.func gf) #[] lb) (hFg : F.fn gf) (eg : ∀ args w, (callFunc gf args).run P w = .ok (.enter gf args) w)
    {encs : α → Array Value} {Kp : World → World → Prop} {S Sp : List α → Prop} {N : Nat} {w0 : World} (hseq : SeqStopsK F (n - 1) P gf lb encs Kp S Sp N w0)
    (hKt : ∀ {A B C : World}, Kp A B → Kp B C → Kp A C) (hKb : ∀ (W : World) (l : Nat) (o o' : Obj), w.heap.size ≤ l → W.heap[l]? = some o → o.isCells = false → o.isWalk = false → Kp W (W.putObj l o')) (hb0 : Below w0.heap.size w0 w) (hps : ∀ x, (encs x).size = ps.size) (hKr : ∀ W, Kp W W)
    (I : List α → World → Prop) (Ix : Code → List α → World → Prop) (hI : OwnFrom w.heap.size I) (hIx : ∀ c, OwnFrom w.heap.size (Ix c)) (h0 : I [] w) (f : Array Value → α → Array Value)
    (hassign : ∀ (l : Nat) (x : α) (W : World) (K : Act → World → Prop), K { tmps := f a.tmps x, defers := [] } W →
      assign.wpIn (F.inRound l) (n - 1 - 1) P (Exit.then K (fun _ _ _ => False)) { tmps := (ps.zip (encs x)).foldl (fun t (p, v) => t.setIfInBounds p v) a.tmps, defers := [] } W)
    (hbody : ∀ (l : Nat) (pre : List α) (x : α) (W : World), w.heap.size ≤ l → (∃ r, W.heap[l]? = some (.loop r)) → I pre W → pre.length < N → body.wpIn (F.inRound l) (n - 1 - 1) P (ownPostG w.heap.size Kp I Ix (pre ++ [x]) W) { tmps := f a.tmps x, defers := [] } W)
    (hdone : ∀ (D : Nat) (xs : List α) (W : World), w.heap.size ≤ D → S xs → I xs W → W.heap[D]? = some (.deferred (some [])) → Q .normal { a with defers := { target := .collected D, args := #[] } :: a.defers } W)
    (hstop : ∀ (D : Nat) (c : Code) (pre : List α) (W : World), w.heap.size ≤ D → Sp pre → Ix c pre W → W.heap[D]? = some (.deferred (some [])) → c.wpIn F n P Q { a with defers := { target := .collected D, args := #[] } :: a.defers } W) :
    (Code.rangeFunc g ps assign body).wpIn F n P Q a w :=
  wpIn_rangeFunc_ownH hro h1 hg hFg eg hseq (fun h k => hKt h k) hKb hb0 hps I Ix hI hIx h0 (fun x a' _ => a' = { tmps := f a.tmps x, defers := [] }) (fun _ _ _ _ _ _ hs _ _ => hs)
    (fun l _ x W K hi hK => hassign l x W K (hK _ _ (KeepsFrom.refl _ _) (hKr W) hi rfl)) (fun l pre x a' W hl hr hi e => by subst e; exact hbody l pre x W hl hr hi) hdone hstop
theorem rngN {α : Type} {g : Operand} {ps : Array Tmp} {assign body : Code} {Q : Exit → Act → World → Prop} {a : Act} {w : World}
    {l₀ : Nat} {r₀ : Loop} (hro : F.round = some l₀) (hl₀ : w.heap[l₀]? = some (.loop r₀)) (h1 : 1 ≤ n) {gf : Nat} {lb : Array Value} (hg : a.eval g = .func (.func gf) #[] lb) (hFg : F.fn gf) (eg : ∀ args w, (callFunc gf args).run P w = .ok (.enter gf args) w)
    {encs : α → Array Value} {Kp : World → World → Prop} {S Sp : List α → Prop} {N : Nat} {w0 : World} (hseq : SeqStopsK F (n - 1) P gf lb encs Kp S Sp N w0)
    (hKt : ∀ {A B C : World}, Kp A B → Kp B C → Kp A C) (hKb : ∀ (W : World) (l : Nat) (o o' : Obj), w.heap.size ≤ l → W.heap[l]? = some o → o.isCells = false → o.isWalk = false → Kp W (W.putObj l o')) (hb0 : Below w0.heap.size w0 w) (hps : ∀ x, (encs x).size = ps.size) (hKr : ∀ W, Kp W W)
    (I : List α → World → Prop) (Ix : Code → List α → World → Prop) (hI : OwnFrom w.heap.size I) (hIx : ∀ c, OwnFrom w.heap.size (Ix c)) (h0 : I [] w) (f : Array Value → α → Array Value)
    (hassign : ∀ (l : Nat) (x : α) (W : World) (K : Act → World → Prop), K { tmps := f a.tmps x, defers := [] } W →
      assign.wpIn (F.inRound l) (n - 1 - 1) P (Exit.then K (fun _ _ _ => False)) { tmps := (ps.zip (encs x)).foldl (fun t (p, v) => t.setIfInBounds p v) a.tmps, defers := [] } W)
    (hbody : ∀ (l : Nat) (pre : List α) (x : α) (W : World), w.heap.size ≤ l → (∃ r, W.heap[l]? = some (.loop r)) → I pre W → pre.length < N → body.wpIn (F.inRound l) (n - 1 - 1) P (ownPostG w.heap.size Kp I Ix (pre ++ [x]) W) { tmps := f a.tmps x, defers := [] } W)
    (hdone : ∀ (xs : List α) (W : World), S xs → I xs W → Q .normal a W)
    (hstop : ∀ (c : Code) (pre : List α) (W : World), Sp pre → Ix c pre W → c.wpIn F n P Q a W) :
    (Code.rangeFunc g ps assign body).wpIn F n P Q a w :=
  wpIn_rangeFunc_ownN hro hl₀ h1 hg hFg eg hseq (fun h k => hKt h k) hKb hb0 hps I Ix hI hIx h0 (fun x a' _ => a' = { tmps := f a.tmps x, defers := [] }) (fun _ _ _ _ _ _ hs _ _ => hs)
    (fun l _ x W K hi hK => hassign l x W K (hK _ _ (KeepsFrom.refl _ _) (hKr W) hi rfl)) (fun l pre x a' W hl hr hi e => by subst e; exact hbody l pre x W hl hr hi) hdone hstop
end
end Go.Proofs.YtejccafolfeabaaGreatDoor

/-
  runes.Count, At, Index.
-/
namespace Go.Proofs.YtejccafolfeabaaGreatDoor
open Go.RowKit
end Go.Proofs.YtejccafolfeabaaGreatDoor

/-
  runes.Runs: the iterator over the runs of a text.
-/
namespace Go.Proofs.YtejccafolfeabaaGreatDoor
open Go.RowKit Go.Shelf
attribute [local go_sem] Oper.semAt_some

/-- What lies from block m on and below block n stands as it stood. -/
structure Mid (m n : Nat) (W W' : World) : Prop where
  size : W.heap.size ≤ W'.heap.size
  block : ∀ k, m ≤ k → k < n → W'.heap[k]? = W.heap[k]?
theorem Mid.refl (m n : Nat) (W : World) : Mid m n W W := ⟨Nat.le_refl _, fun _ _ _ => rfl⟩
theorem Mid.trans {m n : Nat} {A B C : World} (h : Mid m n A B) (k : Mid m n B C) : Mid m n A C := ⟨Nat.le_trans h.size k.size, fun i h1 h2 => (k.block i h1 h2).trans (h.block i h1 h2)⟩
theorem Mid.of_below {m n : Nat} {A B : World} (h : RowKit.Below A.heap.size A B) (hn : n ≤ A.heap.size) : Mid m n A B := ⟨h.size, fun i _ h2 => h.block i (by omega)⟩
theorem Mid.of_belowB {m n b : Nat} {A B : World} (h : RowKit.Below b A B) (hn : n ≤ b) : Mid m n A B := ⟨h.size, fun i _ h2 => h.block i (by omega)⟩
theorem Mid.setCell {m n : Nat} {A B : World} (h : Mid m n A B) {p : Addr} (hp : p.block < m ∨ n ≤ p.block) (u : Value) : Mid m n A (B.setCell p u) :=
  ⟨by simpa [World.setCell] using h.size, fun i h1 h2 => (Below.heap_setCell B p u i (by omega)).trans (h.block i h1 h2)⟩
theorem Mid.alloc {m n : Nat} {A B : World} (h : Mid m n A B) (hn : n ≤ B.heap.size) (o : Obj) : Mid m n A (B.alloc o) := h.trans (Mid.of_below ((RowKit.Below.refl _ _).alloc (Nat.le_refl _) o) hn)
theorem Mid.drewN {m n : Nat} {A B : World} (h : Mid m n A B) (q : Nat) : Mid m n A (B.drewN q) := ⟨h.size, h.block⟩
theorem Mid.cell {m n : Nat} {A B : World} (h : Mid m n A B) {p : Addr} {v : Value} (hv : A.cell? p = some v) (h1 : m ≤ p.block) (h2 : p.block < n) : B.cell? p = some v :=
  (World.cell?_of_block (h.block p.block h1 h2)).trans hv
theorem Rd.mid {m n s : Nat} {w w' : World} {A : Option Addr} {cs : List (List Value)} (h : Rd w s A cs) (hb : Mid m n w w') (hA : ∀ a, A = some a → m ≤ a.block ∧ a.block < n) : Rd w' s A cs :=
  h.keep fun b off i _ ha hp => hb.cell (p := ⟨b, i, none⟩) hp (hA ⟨b, off, none⟩ ha).1 (hA ⟨b, off, none⟩ ha).2
/-- What a round that goes on keeps for an iterator: what lies from m on and below n, and iterators. -/
def Kp (m n : Nat) (W W' : World) : Prop := Mid m n W W' ∧ KeepsWalks W W'
theorem Kp.trans {m n : Nat} {A B C : World} (h : Kp m n A B) (k : Kp m n B C) : Kp m n A C := ⟨h.1.trans k.1, h.2.trans k.2⟩
theorem Kp.put {m n : Nat} {w : World} (hn : n ≤ w.heap.size) (W : World) (l : Nat) (o o' : Obj) (hl : w.heap.size ≤ l) (h : W.heap[l]? = some o) (hc : o.isCells = false) (hw : o.isWalk = false) : Kp m n W (W.putObj l o') :=
  ⟨⟨by simp, fun k _ hk => World.putObj_heap_other (by omega)⟩, walksK_b W l o o' hl h hc hw⟩
theorem Kp.refl (m n : Nat) (W : World) : Kp m n W W := ⟨Mid.refl _ _ _, KeepsWalks.refl _⟩
theorem grown_of_below {w w' : World} (h : RowKit.Below w.heap.size w w') : w.grownBy w' none := ⟨h.os, h.tape, h.output, h.size, fun k hk _ => h.block k hk⟩
theorem grown_iterAt (w : World) (k : Nat) (s : ByteArray) (p : Nat) : w.grownBy (w.iterAt k s p) (some k) :=
  ⟨rfl, rfl, rfl, by rw [Lib.iterAt_size]; exact Nat.le_refl _, fun j _ hj => Lib.iterAt_other w k j s p (fun e => hj (by rw [e]))⟩
theorem abides_below {β : Type} {B : Nat} {J : β → World → Prop} (h : AbidesFrom B J) {x : β} {w w' : World} (hx : J x w) (hb : RowKit.Below w.heap.size w w') : J x w' := h x w w' none hx (grown_of_below hb) (fun _ e => by cases e)
theorem abides_iterAt {β : Type} {B : Nat} {J : β → World → Prop} (h : AbidesFrom B J) {x : β} {w : World} (hx : J x w) {k : Nat} {s : ByteArray} {p : Nat} (hk : w.heap[k]? = some (.stringIter s p)) (hB : B ≤ k) (p' : Nat) : J x (w.iterAt k s p') :=
  h x w _ (some k) hx (grown_iterAt w k s p') (fun r e => by cases e; exact ⟨hB, _, hk, rfl⟩)

def curV : Option Nat → Int
  | none => -1
  | some a => a
/-- How far the runs have come. -/
def RunsAt (s : ByteArray) (set : List (Int × Int)) (f p : Nat) (cur : Option Nat) (pre : List (Nat × Nat)) : Prop :=
  pre ++ runsGo (hasB set) s.size cur (runesGo s f p) = runsP s set ∧ s.size ≤ p + f ∧ p ≤ s.size ∧ ∀ a, cur = some a → a < p
section
variable {s : ByteArray} {set : List (Int × Int)} {f p : Nat} {cur : Option Nat} {pre : List (Nat × Nat)} {R W : Nat}
theorem runsAt_go (h : RunsAt s set f p cur pre) (hp : p < s.size) (hd : Utf8.decode s p = (R, W)) : ∃ g, f = g + 1 ∧ pre ++ runsGo (hasB set) s.size cur ((R, p, p + W) :: runesGo s g (p + W)) = runsP s set := by
  obtain ⟨g, rfl, hg⟩ := runesGo_step (s := s) (f := f) hp h.2.1
  rw [hd] at hg
  exact ⟨g, rfl, by rw [← h.1, hg]⟩
theorem runsAt_in (h : RunsAt s set f p none pre) (hp : p < s.size) (hd : Utf8.decode s p = (R, W)) (hw : 1 ≤ W ∧ p + W ≤ s.size) (hh : hasB set R = true) : ∃ g, RunsAt s set g (p + W) (some p) pre := by
  obtain ⟨g, rfl, hg⟩ := runsAt_go h hp hd
  rw [runsGo, if_pos hh] at hg
  exact ⟨g, hg, by have := h.2.1; omega, hw.2, fun a ha => by cases ha; omega⟩
theorem runsAt_out (h : RunsAt s set f p none pre) (hp : p < s.size) (hd : Utf8.decode s p = (R, W)) (hw : 1 ≤ W ∧ p + W ≤ s.size) (hh : hasB set R = false) : ∃ g, RunsAt s set g (p + W) none pre := by
  obtain ⟨g, rfl, hg⟩ := runsAt_go h hp hd
  rw [runsGo, if_neg (by rw [hh]; exact Bool.false_ne_true)] at hg
  exact ⟨g, hg, by have := h.2.1; omega, hw.2, fun a ha => by cases ha⟩
theorem runsAt_on {a : Nat} (h : RunsAt s set f p (some a) pre) (hp : p < s.size) (hd : Utf8.decode s p = (R, W)) (hw : 1 ≤ W ∧ p + W ≤ s.size) (hh : hasB set R = true) : ∃ g, RunsAt s set g (p + W) (some a) pre := by
  obtain ⟨g, rfl, hg⟩ := runsAt_go h hp hd
  rw [runsGo, if_pos hh] at hg
  exact ⟨g, hg, by have := h.2.1; omega, hw.2, fun b hb => by have := h.2.2.2 b hb; omega⟩
theorem runsAt_off {a : Nat} (h : RunsAt s set f p (some a) pre) (hp : p < s.size) (hd : Utf8.decode s p = (R, W)) (hw : 1 ≤ W ∧ p + W ≤ s.size) (hh : hasB set R = false) :
    (∃ g, RunsAt s set g (p + W) none (pre ++ [(a, p)])) ∧ pre ++ [(a, p)] <+: runsP s set := by
  obtain ⟨g, rfl, hg⟩ := runsAt_go h hp hd
  rw [runsGo, if_neg (by rw [hh]; exact Bool.false_ne_true)] at hg
  refine ⟨⟨g, by rw [← hg]; simp, by have := h.2.1; omega, hw.2, fun a ha => by cases ha⟩, ⟨_, by rw [← hg]; simp; rfl⟩⟩
theorem runsAt_end (h : RunsAt s set f p none pre) (hp : ¬ p < s.size) : pre = runsP s set := by
  have := h.1
  rw [runesGo_end (by omega), runsGo, List.append_nil] at this
  exact this
theorem runsAt_last {a : Nat} (h : RunsAt s set f p (some a) pre) (hp : ¬ p < s.size) : pre ++ [(a, s.size)] = runsP s set := by
  have := h.1
  rw [runesGo_end (by omega), runsGo] at this
  exact this
end
def encP (x : Nat × Nat) : Array Value := #[.int .i64 x.1, .int .i64 x.2]

/-- A piece of a text. -/
abbrev Span (s : ByteArray) := { x : Nat × Nat // x.1 < x.2 ∧ x.2 ≤ s.size }
theorem runsGo_bd {h : Int → Bool} {z : Nat} : ∀ (l : List (Nat × Nat × Nat)) (cur : Option Nat) (_ : ∀ x ∈ l, x.2.1 < x.2.2 ∧ x.2.2 ≤ z) (_ : ∀ a, cur = some a → a < z) (_ : ∀ a, cur = some a → ∀ x ∈ l, a < x.2.1) (_ : l.Pairwise fun x y => x.2.1 < y.2.1), ∀ y ∈ runsGo h z cur l, y.1 < y.2 ∧ y.2 ≤ z
  | [], none, _, _, _, _, y, hy => by simp [runsGo] at hy
  | [], some a, _, ha, _, _, y, hy => by
    simp [runsGo] at hy; subst hy; have := ha a rfl; simp only; omega
  | x :: l, none, hb, _, _, hp, y, hy => by
    have hb' : ∀ x ∈ l, x.2.1 < x.2.2 ∧ x.2.2 ≤ z := fun q hq => hb q (by simp [hq])
    have hx := hb x (by simp)
    have hp' := List.pairwise_cons.1 hp
    rw [runsGo] at hy
    split at hy
    · exact runsGo_bd l (some x.2.1) hb' (fun a ha => by cases ha; omega) (fun a ha q hq => by cases ha; exact hp'.1 q hq) hp'.2 y hy
    · exact runsGo_bd l none hb' (fun a ha => by cases ha) (fun a ha => by cases ha) hp'.2 y hy
  | x :: l, some a, hb, ha, hc, hp, y, hy => by
    have hb' : ∀ x ∈ l, x.2.1 < x.2.2 ∧ x.2.2 ≤ z := fun q hq => hb q (by simp [hq])
    have hx := hb x (by simp)
    have hp' := List.pairwise_cons.1 hp
    rw [runsGo] at hy
    split at hy
    · exact runsGo_bd l (some a) hb' ha (fun b hbb q hq => hc b hbb q (by simp [hq])) hp'.2 y hy
    · rcases List.mem_cons.1 hy with rfl | hy
      · have := hc a rfl x (by simp); simp only; omega
      · exact runsGo_bd l none hb' (fun a ha => by cases ha) (fun a ha => by cases ha) hp'.2 y hy
theorem runesGo_pair {s : ByteArray} : ∀ (f a : Nat), (runesGo s f a).Pairwise fun x y => x.2.1 < y.2.1
  | 0, a => by simp [runesGo]
  | f + 1, a => by
    rw [runesGo]
    split
    · rename_i hlt
      have hd := dec_bd s a hlt
      refine List.pairwise_cons.2 ⟨fun x hx => ?_, runesGo_pair f _⟩
      have := runesGo_bd f _ x hx
      simp only; omega
    · simp
theorem runsP_bd (s : ByteArray) (set : List (Int × Int)) : ∀ y ∈ runsP s set, y.1 < y.2 ∧ y.2 ≤ s.size :=
  runsGo_bd _ _ (fun x hx => by have := runesP_bd x hx; exact ⟨this.1, this.2.1⟩) (fun a ha => by cases ha) (fun a ha => by cases ha) (runesGo_pair _ _)
theorem runsGo_len {h : Int → Bool} {z : Nat} : ∀ (l : List (Nat × Nat × Nat)) (cur : Option Nat), (runsGo h z cur l).length ≤ l.length + 1
  | [], none => by simp [runsGo]
  | [], some a => by simp [runsGo]
  | x :: l, none => by
    rw [runsGo]; split
    · have := runsGo_len l (some x.2.1) (h := h) (z := z); simp only [List.length_cons]; omega
    · have := runsGo_len l none (h := h) (z := z); simp only [List.length_cons]; omega
  | x :: l, some a => by
    rw [runsGo]; split
    · have := runsGo_len l (some a) (h := h) (z := z); simp only [List.length_cons]; omega
    · have := runsGo_len l none (h := h) (z := z); simp only [List.length_cons]; omega
theorem runsP_len (s : ByteArray) (set : List (Int × Int)) : (runsP s set).length ≤ s.size + 1 := by
  have h1 := runsGo_len (h := hasB set) (z := s.size) (runesP s) none
  have h2 := runesP_len s
  unfold runsP; omega

/-- What the iterator's boxes hold. -/
def RunsIt (w : World) (s : ByteArray) (set : List (Int × Int)) (m bs bset : Nat) : Prop :=
  ∃ A na ca, w.cell? ⟨bs, 0, none⟩ = some (.string s) ∧ w.cell? ⟨bset, 0, none⟩ = some (.slice A na ca) ∧ Rd w 2 A (set.map encR) ∧ set.length = na ∧ na ≤ 4000000 ∧ m ≤ bs ∧ m ≤ bset ∧ ∀ a, A = some a → m ≤ a.block ∧ a.block < w.heap.size
theorem RunsIt.lt {w : World} {s : ByteArray} {set : List (Int × Int)} {m bs bset : Nat} (h : RunsIt w s set m bs bset) : m ≤ w.heap.size := by
  obtain ⟨A, na, ca, h1, _, _, _, _, h6, _⟩ := h
  have := cell_lt h1; simp at this; omega
theorem RunsIt.more {w : World} {s : ByteArray} {set : List (Int × Int)} {m m' bs bset : Nat} (h : RunsIt w s set m bs bset) (hm : m' ≤ m) : RunsIt w s set m' bs bset := by
  obtain ⟨A, na, ca, h1, h2, h3, h4, h5, h6, h7, h8⟩ := h
  exact ⟨A, na, ca, h1, h2, h3, h4, h5, by omega, by omega, fun a ha => ⟨by have := (h8 a ha).1; omega, (h8 a ha).2⟩⟩
theorem not_row {w : World} {row : Option Nat} {b : Nat} {o : Obj} (hb : w.heap[b]? = some o) (hc : o.isCells = true) (hr : ∀ r, row = some r → ∃ o : Obj, w.heap[r]? = some o ∧ o.isCells = false) : some b ≠ row := by
  rintro rfl
  obtain ⟨o', h1, h2⟩ := hr b rfl
  rw [hb] at h1; cases h1; rw [hc] at h2; cases h2
theorem Blk.kept {w w' : World} {row : Option Nat} {g : Nat} {t : TypeId} {cs : Array Value} (h : Blk w g t cs) (hg : w.grownBy w' row) (hr : ∀ r, row = some r → ∃ o : Obj, w.heap[r]? = some o ∧ o.isCells = false) : Blk w' g t cs := h.grown hg (not_row h rfl hr)
theorem RunsIt.mid {w w' : World} {s : ByteArray} {set : List (Int × Int)} {m bs bset : Nat} (h : RunsIt w s set m bs bset) (hb : Mid m w.heap.size w w') : RunsIt w' s set m bs bset := by
  obtain ⟨A, na, ca, h1, h2, h3, h4, h5, h6, h7, h8⟩ := h
  exact ⟨A, na, ca, hb.cell h1 h6 (cell_lt h1), hb.cell h2 h7 (cell_lt h2), h3.mid hb h8, h4, h5, h6, h7, fun a ha => ⟨(h8 a ha).1, Nat.lt_of_lt_of_le (h8 a ha).2 hb.size⟩⟩
theorem RunsIt.below {w w' : World} {s : ByteArray} {set : List (Int × Int)} {m bs bset : Nat} (h : RunsIt w s set m bs bset) (hb : RowKit.Below w.heap.size w w') : RunsIt w' s set m bs bset := h.mid (Mid.of_below hb (Nat.le_refl _))
end Go.Proofs.YtejccafolfeabaaGreatDoor

/-
  props: Each of a nil database, Cross of two nil ones, walked.
-/
namespace Go.Proofs.YtejccafolfeabaaGreatDoor
open Go.RowKit Go.Shelf Go.Maps
attribute [local go_sem] Oper.semAt_some

/-- What the iterator's boxes hold of a nil database. -/
def EachNil (w : World) (bd : Nat) : Prop := w.cell? ⟨bd, 0, none⟩ = some (.pointer none)
set_option maxRecDepth 100000 in
theorem wEach_nil (s : ByteArray) (w : World) : Calls Tryz.prog 29 #[.pointer none, .string s] w fun e w' => ∃ bd bs, e = .returned (.func (.func 56) #[] #[.pointer (some ⟨bd, 0, none⟩), .pointer (some ⟨bs, 0, none⟩)]) ∧ EachNil w' bd ∧ Below w.heap.size w w' := by
  go_enter Tryz.func29, Tryz.ntmps29
  go_wp2
  go_ret
  exact ⟨_, _, rfl, cell_keep ((Blk.new w 25 #[.pointer none]).cell 0) ((Below.refl _ _).alloc (Nat.le_refl _) _), ((Below.refl _ _).alloc (Nat.le_refl _) _).alloc (by simp) _⟩
set_option maxRecDepth 100000 in
theorem wCross_nil (w : World) : Calls Tryz.prog 31 #[.pointer none, .pointer none] w fun e w' => e = .returned (.tuple #[.pointer none, .int .i64 0]) ∧ w = w' := by
  go_enter Tryz.func31, Tryz.ntmps31
  go_wp2
  go_ret2
  exact ⟨rfl, rfl⟩
set_option maxRecDepth 100000 in
theorem eachNil_stops (n : Nat) (w w0 : World) (bd bs : Nat) (hw : RowKit.Below w.heap.size w w0) (h : EachNil w bd) :
    SeqStopsK Fence.wide n Tryz.prog 56 #[.pointer (some ⟨bd, 0, none⟩), .pointer (some ⟨bs, 0, none⟩)] (fun _ : Unit => #[Value.int .i64 0, .int .i64 0]) (RowKit.Below 0) (fun ys => ys = []) (fun _ => False) 0 w0 := by
  intro l J Jx W hW hJ _ _ h0
  have hwW : RowKit.Below w.heap.size w W := hw.trans (hW.mono hw.size)
  have hc : W.cell? ⟨bd, 0, none⟩ = some (.pointer none) := cell_keep h hwW
  have hJa : J [] (W.alloc (.cells #[.func (.yield l) #[] #[]] 96)) := abides_below hJ h0 ((RowKit.Below.refl _ _).alloc (Nat.le_refl _) _)
  have hca := cell_keep hc ((RowKit.Below.refl W.heap.size W).alloc (Nat.le_refl _) (.cells #[.func (.yield l) #[] #[]] 96))
  refine callsIn_of_wp_marks Tryz.func56 rfl trivial ?_ rfl
  simp only [Tryz.ntmps56, List.size_toArray, List.length_cons, List.length_nil, Nat.reduceAdd, Nat.reduceSub, Array.replicate_succ, Array.replicate_zero, List.push_toArray, List.append_toArray, List.nil_append, List.cons_append]
  gi_wp2
  exact ⟨_, results_none rfl _ _ _, ⟨_, rfl⟩, hJa⟩
end Go.Proofs.YtejccafolfeabaaGreatDoor

/-
  kerflaw04.PropsNil, walked.
-/
namespace Go.Proofs.YtejccafolfeabaaGreatDoor
open Go.RowKit Go.Shelf Go.Maps
attribute [local go_sem] Oper.semAt_some

theorem res_cell0 (w : World) (b : Nat) (tmps : Array Value) (ht : tmps.getD 0 undef = .pointer (some ⟨b, 0, none⟩)) {v : Bool} (hc : w.cell? ⟨b, 0, none⟩ = some (.bool v)) : (results Tryz.f9 tmps).run Tryz.prog w = .ok (.bool v) w := by
  have ht' : tmps[0]?.getD undef = .pointer (some ⟨b, 0, none⟩) := by simpa [Array.getD_eq_getD_getElem?] using ht
  simp [results, Tryz.results9, go_sem, ht', hc]
theorem seqii_nil (fn : Fn) (first captured : Array Value) (W : World) : (binOp .eql 50 (.func fn first captured) .nilFunc).run Tryz.prog W = .ok (.bool false) W := by kernel_rfl
set_option maxRecDepth 100000 in
set_option maxHeartbeats 4000000 in
theorem qPropsNil_any (w : World) (hE : Env w) : Calls Tryz.prog 9 #[] w fun e w' => e = .returned (.bool true) ∧ RowKit.Below w.heap.size w w' := by
  have HB : RowKit.Below w.heap.size w (w.alloc (.cells #[.bool false] 4)) := (RowKit.Below.refl _ _).alloc (Nat.le_refl _) _
  have B0 : Blk (w.alloc (.cells #[.bool false] 4)) w.heap.size 4 #[.bool false] := Blk.new _ _ _
  refine (callsIn_wide (n := 6)).1 ?_
  refine callsIn_of_wp_marks Tryz.func9 rfl trivial ?_ rfl
  simp only [Tryz.ntmps9, List.size_toArray, List.length_nil, Nat.reduceSub, Array.replicate_succ, Array.replicate_zero, List.push_toArray, List.append_toArray, List.nil_append, List.cons_append]
  refine wpIn_wide.2 ?_
  go_wp2_with fail
  generalize (w.alloc (.cells #[.bool false] 4)) = w0 at HB B0 ⊢
  refine (wClass_nil _ w0).mono ?_
  rintro e w' ⟨rfl, rfl⟩
  go_wp2_with fail
  refine (wCross_nil w').mono ?_
  rintro e w1 ⟨rfl, rfl⟩
  go_wp2_with fail
  refine (wEach_nil _ w').mono ?_
  rintro e w2 ⟨bd, bs, rfl, hit, hb⟩
  have B2 := B0.below hb
  replace HB := below_two HB hb
  have hz0 := B0.lt
  have hnil := seqii_nil (.func 56) #[] #[.pointer (some ⟨bd, 0, none⟩), .pointer (some ⟨bs, 0, none⟩)]
  clear hit B0 hb
  go_wp2_with fail
  refine (wEach_nil _ w2).mono ?_
  rintro e w3 ⟨bd2, bs2, rfl, hit, hb⟩
  have B3 := B2.below hb
  replace HB := below_two HB hb
  have hz2 := B2.lt
  clear B2 hb hnil
  go_wp2_with fail
  refine (wpIn_wide (n := 6)).1 ?_
  refine rngH rfl (by decide) (gf := 56) (lb := #[.pointer (some ⟨bd2, 0, none⟩), .pointer (some ⟨bs2, 0, none⟩)]) rfl trivial (enters_of Tryz.func56 (by kernel_rfl) rfl)
    (eachNil_stops 5 w3 w3 bd2 bs2 (RowKit.Below.refl _ _) hit) (fun h k => h.trans k) (belowK_b (Nat.zero_le _)) (RowKit.Below.refl _ _) (fun _ => rfl) (fun _ => RowKit.Below.refl _ _)
    (fun (_ : List Unit) W => Blk W w.heap.size 4 #[.bool false] ∧ RowKit.Below w.heap.size w W)
    (fun _ _ _ => False)
    (OwnFrom.and (Go.Own.from (fun s A B row hs hg hr => hs.kept hg hr) _) (ownFrom_below (Nat.le_refl _) (by have := HB.size; omega)))
    (fun _ _ _ _ _ hs _ _ => hs)
    ⟨B3, HB⟩
    (fun T _ => (#[20, 21].zip #[Value.int .i64 0, .int .i64 0]).foldl (fun t (p, v) => t.setIfInBounds p v) T) ?assign ?body ?done ?stop
  case assign =>
    intro l x W K hK
    simp only [List.zip_toArray, List.zip_cons_cons, List.zip_nil_right, List.foldl_toArray', List.foldl_cons, List.foldl_nil, List.setIfInBounds_toArray, List.set_cons_succ, List.set_cons_zero] at hK ⊢
    gi_wp2
    exact hK
  case body =>
    rintro l pre x W _ _ _ h
    exact absurd h (by omega)
  case done =>
    rintro D ys W hD hys ⟨BW, hbW⟩ hK
    have hz3 := B3.lt
    clear B3 hit
    go_wp2_with fail
    refine (qlive_any W (hE.below hbW)).mono ?_
    rintro e wa ⟨rfl, hb⟩
    have BA := BW.below hb
    have hKa := (hb.block D (Array.getElem?_eq_some_iff.1 hK).1).trans hK
    replace hbW := below_two hbW hb
    clear BW hb hK
    go_wp2_with fail
    refine (wGet_nil _ wa).mono ?_
    rintro e w' ⟨rfl, rfl⟩
    go_wp2_with fail
    refine (wNames_nil w').mono ?_
    rintro e w' ⟨rfl, rfl⟩
    go_wp2_with fail
    refine (wSet_nil _ w').mono ?_
    rintro e w' ⟨rfl, rfl⟩
    go_wp2_with fail
    refine (wRanged_nil w').mono ?_
    rintro e w' ⟨rfl, rfl⟩
    go_wp2_with fail
    refine (wOf_nil _ w').mono ?_
    rintro e w' ⟨rfl, rfl⟩
    go_wp2_with fail
    refine (wText_nil w').mono ?_
    rintro e w' ⟨rfl, rfl⟩
    have hse : (bytesOf []).toList.isEmpty = true := by rw [ByteArray.toList_eq]; rfl
    have c0 := BA.cell 0
    have f0 := BA.frozen 0
    simp only [List.getElem?_toArray, List.getElem?_cons_zero] at c0
    go_wp2_with (go_at_call 15; refine (qnum_any _ _).mono ?_; rintro e w' ⟨rfl, rfl⟩)
    have BV := BA.set_ 0 (.bool true)
    have hK3 : (w'.setCell ⟨w.heap.size, 0, none⟩ (.bool true)).heap[D]? = some (.deferred (some [])) := (Below.heap_setCell w' ⟨w.heap.size, 0, none⟩ _ D (by simp only; omega)).trans hKa
    have c7 := BV.cell 0
    simp only [List.getElem?_toArray, List.getElem?_cons_zero, List.setIfInBounds_toArray, List.set_cons_zero] at c7
    have HB9 := hbW.setCell (p := ⟨w.heap.size, 0, none⟩) (Nat.le_refl _) (.bool true)
    refine ⟨by simp, .inl ⟨_, _, rfl, run_takeDeferred hK3, ?_⟩⟩
    refine ⟨_, res_cell0 _ w.heap.size _ rfl ((World.cell?_of_block (World.putObj_heap_other (by simp only; omega))).trans c7), rfl, HB9.trans (belowK_b (w := w) (Nat.le_refl _) _ D _ _ (by omega) hK3 rfl rfl)⟩
  case stop =>
    rintro D c pre W _ _ h _
    exact h.elim
end Go.Proofs.YtejccafolfeabaaGreatDoor

/-
  kerflaw04: texts, ints, ranged, walked (two lists that are the same).
-/
namespace Go.Proofs.YtejccafolfeabaaGreatDoor
open Go.RowKit Go.Maps

theorem Rd.atS {w : World} {A : Option Addr} {l : List (List UInt8)} {k : Nat} {x : List UInt8} (h : Rd w 1 A (l.map encNm)) (hk : l[k]? = some x) : ∃ b off, A = some ⟨b, off, none⟩ ∧ w.cell? ⟨b, off + k, none⟩ = some (.string (bytesOf x)) := by
  obtain ⟨b, off, rfl, hc⟩ := h (by intro e; cases l with | nil => simp at hk | cons _ _ => simp at e)
  have h0 := hc k 0 (encNm x) (.string (bytesOf x)) (by simp [hk]) rfl
  exact ⟨b, off, rfl, by simpa using h0⟩
set_option maxRecDepth 100000 in
set_option maxHeartbeats 1000000 in
theorem qtexts_any (A B : Option Addr) (n c e : Nat) (l : List (List UInt8)) (w : World) (hA : Rd w 1 A (l.map encNm)) (hB : Rd w 1 B (l.map encNm)) (hl : l.length = n) (hn : n ≤ 4000000) :
    Calls Tryz.prog 24 #[.slice A n c, .slice B n e] w fun e w' => e = .returned (.bool true) ∧ ∃ k, w' = w.drewN k := by
  have Hl := Lib.hid hl
  clear hl
  go_enter Tryz.func24, Tryz.ntmps24
  go_wp2
  go_loopw [5] (fun v wr => ∃ i k : Nat, v = .int .i64 i ∧ i ≤ n ∧ wr = w.drewN k) (fun v _ => n - (intOf v).toNat)
  case atStart => exact ⟨0, 0, rfl, by omega, rfl⟩
  case round =>
    obtain ⟨i, k, rfl, hi, rfl⟩ := hrel
    by_cases hlt : i < n
    · obtain ⟨x, Hx⟩ : ∃ x, Hid (l[i]? = some x) := ⟨_, Lib.hid (List.getElem?_eq_getElem (show i < l.length by have := Hl.out; omega))⟩
      obtain ⟨b, off, rfl, h1⟩ := hA.atS Hx.out
      obtain ⟨b', off', rfl, h2⟩ := hB.atS Hx.out
      go_wp2_with fail
      go_quiet (fail)
      go_wp2
      go_roundw
      case rel => exact ⟨i + 1, _, by go_num, by omega, by first | rfl | exact World.drewN_drewN⟩
      case measure => simp [intOf]; omega
    · go_wp2
      go_ret
      exact ⟨rfl, k, rfl⟩

theorem newP_code {t : List UInt8} {x : Int × Nat} (h : newP t = .error x) : 1 ≤ x.1 := by
  unfold newP at h
  split at h
  · injection h with h; subst h; decide
  · have key : ∀ (L : List (List UInt8)) (d : DbP) (i : Nat), linesGo d L i = .error x → 1 ≤ x.1 := by
      intro L
      induction L with
      | nil => intro d i h; cases h
      | cons a r ih =>
        intro d i h
        unfold linesGo at h
        split at h
        · rename_i e he
          injection h with h; subst h
          simp only
          unfold stepL at he
          split at he
          · cases he
          · injection he with he; omega
          · have := addL_err he; omega
        · exact ih _ _ h
    exact key _ _ _ h
end Go.Proofs.YtejccafolfeabaaGreatDoor

/-
  Ranges over an iterator that itself ranges over another one: its own loop's record turns in every round, so its contract asks more of what is carried (OwnFrom: whatever is no cells, from the loop's first block on, may be turned). The law for the statement, ahead of a round and within one.
-/
namespace Go.Proofs.YtejccafolfeabaaGreatDoor
open Go.RowKit

section
variable {P : Program} {F : Fence} {n : Nat} {α : Type}
/-- An iterator's contract, where what is carried abides every turn of what is no cells. -/
def SeqC (F : Fence) (n : Nat) (P : Program) (g : Nat) (lb : Array Value) (encs : α → Array Value) (Kp : World → World → Prop) (S Sp : List α → Prop) (N : Nat) (w : World) : Prop :=
  ∀ (l : Nat) (J Jx : List α → World → Prop) (W : World), Below w.heap.size w W → OwnFrom W.heap.size J → OwnFrom W.heap.size Jx →
    (∀ pre x W1, J pre W1 → pre.length < N → YieldAt F (n - 1) P l (encs x) W1 fun e W' => (e = .returned (.bool true) ∧ J (pre ++ [x]) W' ∧ Kp W1 W' ∧ KeepsFrom W.heap.size W1 W') ∨ (e = .returned (.bool false) ∧ Jx (pre ++ [x]) W' ∧ KeepsFrom W.heap.size W1 W')) →
    J [] W → CallsIn F n P g (#[.func (.yield l) #[] #[]] ++ lb) W fun e W' => (∃ v, e = .returned v) ∧ ((∃ xs, S xs ∧ J xs W') ∨ (∃ pre, Sp pre ∧ Jx pre W'))
theorem SeqC.inRound {g : Nat} {lb : Array Value} {encs : α → Array Value} {Kp : World → World → Prop} {S Sp : List α → Prop} {N : Nat} {w : World} (l : Nat) (h : SeqC F n P g lb encs Kp S Sp N w) : SeqC (F.inRound l) n P g lb encs Kp S Sp N w := h

/-- A loop's record. -/
def recC (fn : FuncId) (tmps : Array Value) (ps : Array Tmp) (assign body : Code) (d : Nat) (st : LoopState) (pe : Option Code) : Loop := { state := st, pending := pe, fn, tmps, params := ps, assign, body, defers := d }
/-- What no round turns but the loop's own record. -/
structure StaysC (B l : Nat) (W W' : World) : Prop where
  size : W.heap.size ≤ W'.heap.size
  same : ∀ (k : Nat) (o : Obj), B ≤ k → k ≠ l → W.heap[k]? = some o → o.isCells = false → W'.heap[k]? = some o

variable {encs : α → Array Value} {Kp : World → World → Prop} {I : List α → World → Prop} {Ix : Code → List α → World → Prop} {ps : Array Tmp} {assign body : Code}
/-- One round, from yield's call to its answer. -/
theorem yieldC {fn : FuncId} {tmps : Array Value} {d l B m : Nat} {pre : List α} {x : α} {W : World} {a' : Act} (hfn : F.fn fn) (hps : (encs x).size = ps.size) (hB : B ≤ l)
    (hKt : ∀ {A B C : World}, Kp A B → Kp B C → Kp A C) (hKb : ∀ (W : World) (l : Nat) (o o' : Obj), B ≤ l → W.heap[l]? = some o → o.isCells = false → o.isWalk = false → Kp W (W.putObj l o'))
    (hI : OwnFrom B I) (hIx : ∀ c, OwnFrom B (Ix c)) (hi : I pre W) (hl : W.heap[l]? = some (.loop (recC fn tmps ps assign body d .ready none)))
    (hassign : ∀ K : Act → World → Prop, K a' W → assign.wpIn (F.inRound l) m P (Exit.then K (fun _ _ _ => False)) { tmps := (ps.zip (encs x)).foldl (fun t (p, v) => t.setIfInBounds p v) tmps, defers := [] } W)
    (hbody : ∀ W', (∃ r, W'.heap[l]? = some (.loop r)) → I pre W' → body.wpIn (F.inRound l) m P (ownPostG B Kp I Ix (pre ++ [x]) W') a' W') :
    YieldAt F m P l (encs x) W fun e W' =>
      (e = .returned (.bool true) ∧ (I (pre ++ [x]) W' ∧ W'.heap[l]? = some (.loop (recC fn tmps ps assign body d .ready none)) ∧ StaysC B l W W') ∧ Kp W W') ∨
      (e = .returned (.bool false) ∧ ∃ c, Ix c (pre ++ [x]) W' ∧ W'.heap[l]? = some (.loop (recC fn tmps ps assign body d .done (some c))) ∧ StaysC B l W W') := by
  refine ⟨fn, _, assign, body, run_yield (P := P) (args := encs x) hl hps, roundIn_of_wpIn hfn (hassign _ ?_)⟩
  have hlt := (Array.getElem?_eq_some_iff.1 hl).1
  refine ⟨_, run_beginRound hl rfl, ?_⟩
  have hl2 : (W.putObj l (.loop { recC fn tmps ps assign body d .ready none with state := .busy })).heap[l]? = some (.loop { recC fn tmps ps assign body d .ready none with state := .busy }) := World.putObj_heap_same hlt
  have hk2 : Kp W (W.putObj l (.loop { recC fn tmps ps assign body d .ready none with state := .busy })) := hKb _ _ _ _ hB hl rfl rfl
  refine wpIn_mono (hbody _ ⟨_, hl2⟩ (hI.putObj _ hi hB hl rfl)) ?_
  -- the round's end, whichever way it is left
  have last : ∀ (jump : Option Code) (W3 : World), KeepsFrom B (W.putObj l (.loop { recC fn tmps ps assign body d .ready none with state := .busy })) W3 →
      ∃ W4, (Instr.endRound l jump).run P W3 = .ok (.bool jump.isNone) W4 ∧ W4.heap[l]? = some (.loop (recC fn tmps ps assign body d (if jump.isNone then .ready else .done) jump)) ∧ StaysC B l W W4 ∧
        (∀ Y : World → Prop, (∀ (o o' : Obj), W3.heap[l]? = some o → o.isCells = false → o.isWalk = false → Y (W3.putObj l o')) → Y W4) := fun jump W3 hk => by
    have hl3 := hk.same _ _ hB hl2 rfl
    refine ⟨_, run_endRound (P := P) jump hl3, World.putObj_heap_same (Array.getElem?_eq_some_iff.1 hl3).1, ⟨by have := hk.size; simpa using this, fun k o hBk hne ho hc => ?_⟩, fun Y hY => hY _ _ hl3 rfl rfl⟩
    exact (World.putObj_heap_other hne).trans (hk.same k o hBk ((World.putObj_heap_other hne).trans ho) hc)
  rintro e a3 W3 hp
  cases e with
  | normal =>
    obtain ⟨hk, hkp, hi3⟩ := hp
    obtain ⟨W4, hr, h4, hs, hY⟩ := last none W3 hk
    exact ⟨_, _, hr, .inl ⟨rfl, ⟨hY (fun W => I (pre ++ [x]) W) (fun o o' ho hc _ => hI.putObj o' hi3 hB ho hc), h4, hs⟩, hKt (hKt hk2 hkp) (hY (Kp W3) (fun o o' ho hc hw => hKb W3 l o o' hB ho hc hw))⟩⟩
  | ret =>
    obtain ⟨hk, hi3⟩ := hp
    obtain ⟨W4, hr, h4, hs, hY⟩ := last (some .ret) W3 hk
    exact ⟨_, _, hr, .inr ⟨rfl, _, hY (fun W => Ix .ret (pre ++ [x]) W) (fun o o' ho hc _ => (hIx _).putObj o' hi3 hB ho hc), h4, hs⟩⟩
  | exit id =>
    obtain ⟨hk, hi3⟩ := hp
    obtain ⟨W4, hr, h4, hs, hY⟩ := last (some (.exit id)) W3 hk
    exact ⟨_, _, hr, .inr ⟨rfl, _, hY (fun W => Ix (.exit id) (pre ++ [x]) W) (fun o o' ho hc _ => (hIx _).putObj o' hi3 hB ho hc), h4, hs⟩⟩
  | goto t =>
    obtain ⟨hk, hi3⟩ := hp
    obtain ⟨W4, hr, h4, hs, hY⟩ := last (some (.goto t)) W3 hk
    exact ⟨_, _, hr, .inr ⟨rfl, _, hY (fun W => Ix (.goto t) (pre ++ [x]) W) (fun o o' ho hc _ => (hIx _).putObj o' hi3 hB ho hc), h4, hs⟩⟩
  | panic ch => exact hp.elim
  | outgrown => exact hp.elim

/-- What lies ahead of the loop's blocks' end stays where only later blocks turn. -/
theorem grown_later {A B : World} {row : Option Nat} {W1 : World} (hg : A.grownBy B row) (hr : ∀ r, row = some r → W1.heap.size ≤ r ∧ ∃ o : Obj, A.heap[r]? = some o ∧ o.isCells = false) {k : Nat} {o : Obj} (hk : k < W1.heap.size) (ho : A.heap[k]? = some o) : B.heap[k]? = some o :=
  (hg.block k (Array.getElem?_eq_some_iff.1 ho).1 (fun e => by have := (hr k e.symm).1; omega)).trans ho
theorem own_later {β : Type} {B : Nat} {I : β → World → Prop} (h : OwnFrom B I) {C : Nat} (hBC : B ≤ C) : OwnFrom C I := fun s X Y row hs hg hr => h s X Y row hs hg (fun r e => ⟨Nat.le_trans hBC (hr r e).1, (hr r e).2⟩)

variable {g : Operand} {Q : Exit → Act → World → Prop} {a : Act} {w : World}
theorem rngC (hro : F.round = none) (h1 : 1 ≤ n) {gf : Nat} {lb : Array Value} (hg : a.eval g = .func (.func gf) #[] lb) (hFg : F.fn gf) (eg : ∀ args w, (callFunc gf args).run P w = .ok (.enter gf args) w)
    {S Sp : List α → Prop} {N : Nat} {w0 : World} (hseq : SeqC F (n - 1) P gf lb encs Kp S Sp N w0)
    (hKt : ∀ {A B C : World}, Kp A B → Kp B C → Kp A C) (hKb : ∀ (W : World) (l : Nat) (o o' : Obj), w.heap.size ≤ l → W.heap[l]? = some o → o.isCells = false → o.isWalk = false → Kp W (W.putObj l o')) (hb0 : Below w0.heap.size w0 w) (hps : ∀ x, (encs x).size = ps.size)
    (I : List α → World → Prop) (Ix : Code → List α → World → Prop) (hI : OwnFrom w.heap.size I) (hIx : ∀ c, OwnFrom w.heap.size (Ix c)) (h0 : I [] w) (f : Array Value → α → Array Value)
    (hassign : ∀ (l : Nat) (x : α) (W : World) (K : Act → World → Prop), K { tmps := f a.tmps x, defers := [] } W →
      assign.wpIn (F.inRound l) (n - 1 - 1) P (Exit.then K (fun _ _ _ => False)) { tmps := (ps.zip (encs x)).foldl (fun t (p, v) => t.setIfInBounds p v) a.tmps, defers := [] } W)
    (hbody : ∀ (l : Nat) (pre : List α) (x : α) (W : World), w.heap.size ≤ l → (∃ r, W.heap[l]? = some (.loop r)) → I pre W → pre.length < N → body.wpIn (F.inRound l) (n - 1 - 1) P (ownPostG w.heap.size Kp I Ix (pre ++ [x]) W) { tmps := f a.tmps x, defers := [] } W)
    (hdone : ∀ (D : Nat) (xs : List α) (W : World), w.heap.size ≤ D → S xs → I xs W → W.heap[D]? = some (.deferred (some [])) → Q .normal { a with defers := { target := .collected D, args := #[] } :: a.defers } W)
    (hstop : ∀ (D : Nat) (c : Code) (pre : List α) (W : World), w.heap.size ≤ D → Sp pre → Ix c pre W → W.heap[D]? = some (.deferred (some [])) → c.wpIn F n P Q { a with defers := { target := .collected D, args := #[] } :: a.defers } W) :
    (Code.rangeFunc g ps assign body).wpIn F n P Q a w := by
  refine wpIn_rangeFunc (fun fn hfn => ?_)
  rw [hro]
  have z1 : (w.alloc (.deferred (some []))).heap.size = w.heap.size + 1 := by simp
  have hL : ((w.alloc (.deferred (some []))).alloc (.loop (recC fn a.tmps ps assign body w.heap.size .ready none))).heap[w.heap.size + 1]? = some (.loop (recC fn a.tmps ps assign body w.heap.size .ready none)) := by
    have := World.alloc_heap_new (w.alloc (.deferred (some []))) (.loop (recC fn a.tmps ps assign body w.heap.size .ready none)); rwa [z1] at this
  have hD : ((w.alloc (.deferred (some []))).alloc (.loop (recC fn a.tmps ps assign body w.heap.size .ready none))).heap[w.heap.size]? = some (.deferred (some [])) := (Below.heap_alloc _ _ _ (by simp)).trans (World.alloc_heap_new w _)
  have hz : ((w.alloc (.deferred (some []))).alloc (.loop (recC fn a.tmps ps assign body w.heap.size .ready none))).heap.size = w.heap.size + 2 := by simp
  have hi : I [] ((w.alloc (.deferred (some []))).alloc (.loop (recC fn a.tmps ps assign body w.heap.size .ready none))) := hI.alloc _ (hI.alloc _ h0)
  have hb1 : Below w0.heap.size w0 ((w.alloc (.deferred (some []))).alloc (.loop (recC fn a.tmps ps assign body w.heap.size .ready none))) := (hb0.alloc hb0.size _).alloc (by simp; have := hb0.size; omega) _
  refine ⟨w.heap.size + 1, [{ target := .collected w.heap.size, args := #[] }], (w.alloc (.deferred (some []))).alloc (.loop (recC fn a.tmps ps assign body w.heap.size .ready none)), { target := .fn (.func gf) lb, args := #[.func (.yield (w.heap.size + 1)) #[] #[]] },
    (w.alloc (.deferred (some []))).alloc (.loop (recC fn a.tmps ps assign body w.heap.size .ready none)), gf, #[.func (.yield (w.heap.size + 1)) #[] #[]] ++ lb, (w.alloc (.deferred (some []))).alloc (.loop (recC fn a.tmps ps assign body w.heap.size .ready none)), ?_, ?_, ?_, ?_, fun _ => h1, ?_⟩
  · exact run_enterLoop_outer _ _ _ _ _
  · simp only [resolve, hg]; simp [go_sem]
  · intro f' hf'; simp [Target.leads] at hf'; subst hf'; exact hFg
  · simp [invoke, go_sem, eg]
  · generalize hW1 : (w.alloc (.deferred (some []))).alloc (.loop (recC fn a.tmps ps assign body w.heap.size .ready none)) = W1 at hL hD hz hi hb1
    have hle : w.heap.size ≤ W1.heap.size := by omega
    refine (hseq (w.heap.size + 1)
      (fun pre W => I pre W ∧ W.heap[w.heap.size + 1]? = some (.loop (recC fn a.tmps ps assign body w.heap.size .ready none)) ∧ W.heap[w.heap.size]? = some (.deferred (some [])))
      (fun pre W => ∃ c, Ix c pre W ∧ W.heap[w.heap.size + 1]? = some (.loop (recC fn a.tmps ps assign body w.heap.size .done (some c))) ∧ W.heap[w.heap.size]? = some (.deferred (some [])))
      W1 hb1
      (fun s X Y row hs hg' hr => ⟨own_later hI hle s X Y row hs.1 hg' hr, grown_later hg' hr (by omega) hs.2.1, grown_later hg' hr (by omega) hs.2.2⟩)
      (fun s X Y row hs hg' hr => let ⟨c, h1, h2, h3⟩ := hs; ⟨c, own_later (hIx c) hle s X Y row h1 hg' hr, grown_later hg' hr (by omega) h2, grown_later hg' hr (by omega) h3⟩)
      (fun pre x W hj hlen => YieldAt.mono (yieldC (Kp := Kp) (l := w.heap.size + 1) hfn (hps x) (Nat.le_succ _) (fun h k => hKt h k) hKb hI hIx hj.1 hj.2.1 (hassign _ x W) (fun W' hr hi' => hbody _ pre x W' (Nat.le_succ _) hr hi' hlen)) ?_) ⟨hi, hL, hD⟩).mono ?_
    · rintro e W' (⟨he, ⟨h2, h3, h4⟩, h5⟩ | ⟨he, c, h2, h3, h4⟩)
      · exact .inl ⟨he, ⟨h2, h3, h4.same _ _ (Nat.le_refl _) (by omega) hj.2.2 rfl⟩, h5, ⟨h4.size, fun k o hk ho hc => h4.same k o (by omega) (by omega) ho hc⟩⟩
      · exact .inr ⟨he, ⟨c, h2, h3, h4.same _ _ (Nat.le_refl _) (by omega) hj.2.2 rfl⟩, ⟨h4.size, fun k o hk ho hc => h4.same k o (by omega) (by omega) ho hc⟩⟩
    · rintro e W2 ⟨⟨v, rfl⟩, (⟨xs, hS, hi, hl, hk⟩ | ⟨pre, hSp, c, hi, hl, hk⟩)⟩
      · exact ⟨none, _, run_endLoop (P := P) hl (by simp [recC]), hdone _ xs _ (Nat.le_refl _) hS (hI.putObj _ hi (Nat.le_succ _) hl rfl) ((World.putObj_heap_other (by omega)).trans hk)⟩
      · exact ⟨some c, _, run_endLoop (P := P) hl (by simp [recC]), hstop _ c pre _ (Nat.le_refl _) hSp ((hIx c).putObj _ hi (Nat.le_succ _) hl rfl) ((World.putObj_heap_other (by omega)).trans hk)⟩

theorem rngCN {l₀ : Nat} {r₀ : Loop} (hro : F.round = some l₀) (hl₀ : w.heap[l₀]? = some (.loop r₀)) (h1 : 1 ≤ n) {gf : Nat} {lb : Array Value} (hg : a.eval g = .func (.func gf) #[] lb) (hFg : F.fn gf) (eg : ∀ args w, (callFunc gf args).run P w = .ok (.enter gf args) w)
    {S Sp : List α → Prop} {N : Nat} {w0 : World} (hseq : SeqC F (n - 1) P gf lb encs Kp S Sp N w0)
    (hKt : ∀ {A B C : World}, Kp A B → Kp B C → Kp A C) (hKb : ∀ (W : World) (l : Nat) (o o' : Obj), w.heap.size ≤ l → W.heap[l]? = some o → o.isCells = false → o.isWalk = false → Kp W (W.putObj l o')) (hb0 : Below w0.heap.size w0 w) (hps : ∀ x, (encs x).size = ps.size)
    (I : List α → World → Prop) (Ix : Code → List α → World → Prop) (hI : OwnFrom w.heap.size I) (hIx : ∀ c, OwnFrom w.heap.size (Ix c)) (h0 : I [] w) (f : Array Value → α → Array Value)
    (hassign : ∀ (l : Nat) (x : α) (W : World) (K : Act → World → Prop), K { tmps := f a.tmps x, defers := [] } W →
      assign.wpIn (F.inRound l) (n - 1 - 1) P (Exit.then K (fun _ _ _ => False)) { tmps := (ps.zip (encs x)).foldl (fun t (p, v) => t.setIfInBounds p v) a.tmps, defers := [] } W)
    (hbody : ∀ (l : Nat) (pre : List α) (x : α) (W : World), w.heap.size ≤ l → (∃ r, W.heap[l]? = some (.loop r)) → I pre W → pre.length < N → body.wpIn (F.inRound l) (n - 1 - 1) P (ownPostG w.heap.size Kp I Ix (pre ++ [x]) W) { tmps := f a.tmps x, defers := [] } W)
    (hdone : ∀ (xs : List α) (W : World), S xs → I xs W → Q .normal a W)
    (hstop : ∀ (c : Code) (pre : List α) (W : World), Sp pre → Ix c pre W → c.wpIn F n P Q a W) :
    (Code.rangeFunc g ps assign body).wpIn F n P Q a w := by
  refine wpIn_rangeFunc (fun fn hfn => ?_)
  rw [hro]
  have hL : (w.alloc (.loop (recC fn a.tmps ps assign body r₀.defers .ready none))).heap[w.heap.size]? = some (.loop (recC fn a.tmps ps assign body r₀.defers .ready none)) := World.alloc_heap_new w _
  have hz : (w.alloc (.loop (recC fn a.tmps ps assign body r₀.defers .ready none))).heap.size = w.heap.size + 1 := by simp
  have hi : I [] (w.alloc (.loop (recC fn a.tmps ps assign body r₀.defers .ready none))) := hI.alloc _ h0
  have hb1 : Below w0.heap.size w0 (w.alloc (.loop (recC fn a.tmps ps assign body r₀.defers .ready none))) := hb0.alloc hb0.size _
  refine ⟨w.heap.size, [], w.alloc (.loop (recC fn a.tmps ps assign body r₀.defers .ready none)), { target := .fn (.func gf) lb, args := #[.func (.yield w.heap.size) #[] #[]] },
    w.alloc (.loop (recC fn a.tmps ps assign body r₀.defers .ready none)), gf, #[.func (.yield w.heap.size) #[] #[]] ++ lb, w.alloc (.loop (recC fn a.tmps ps assign body r₀.defers .ready none)), ?_, ?_, ?_, ?_, fun _ => h1, ?_⟩
  · exact run_enterLoop_inner hl₀ _ _ _ _ _
  · simp only [resolve, hg]; simp [go_sem]
  · intro f' hf'; simp [Target.leads] at hf'; subst hf'; exact hFg
  · simp [invoke, go_sem, eg]
  · generalize hW1 : w.alloc (.loop (recC fn a.tmps ps assign body r₀.defers .ready none)) = W1 at hL hz hi hb1
    have hle : w.heap.size ≤ W1.heap.size := by omega
    refine (hseq w.heap.size
      (fun pre W => I pre W ∧ W.heap[w.heap.size]? = some (.loop (recC fn a.tmps ps assign body r₀.defers .ready none)))
      (fun pre W => ∃ c, Ix c pre W ∧ W.heap[w.heap.size]? = some (.loop (recC fn a.tmps ps assign body r₀.defers .done (some c))))
      W1 hb1
      (fun s X Y row hs hg' hr => ⟨own_later hI hle s X Y row hs.1 hg' hr, grown_later hg' hr (by omega) hs.2⟩)
      (fun s X Y row hs hg' hr => let ⟨c, h1, h2⟩ := hs; ⟨c, own_later (hIx c) hle s X Y row h1 hg' hr, grown_later hg' hr (by omega) h2⟩)
      (fun pre x W hj hlen => YieldAt.mono (yieldC (Kp := Kp) (l := w.heap.size) hfn (hps x) (Nat.le_refl _) (fun h k => hKt h k) hKb hI hIx hj.1 hj.2 (hassign _ x W) (fun W' hr hi' => hbody _ pre x W' (Nat.le_refl _) hr hi' hlen)) ?_) ⟨hi, hL⟩).mono ?_
    · rintro e W' (⟨he, ⟨h2, h3, h4⟩, h5⟩ | ⟨he, c, h2, h3, h4⟩)
      · exact .inl ⟨he, ⟨h2, h3⟩, h5, ⟨h4.size, fun k o hk ho hc => h4.same k o (by omega) (by omega) ho hc⟩⟩
      · exact .inr ⟨he, ⟨c, h2, h3⟩, ⟨h4.size, fun k o hk ho hc => h4.same k o (by omega) (by omega) ho hc⟩⟩
    · rintro e W2 ⟨⟨v, rfl⟩, (⟨xs, hS, hi, hl⟩ | ⟨pre, hSp, c, hi, hl⟩)⟩
      · exact ⟨none, _, run_endLoop (P := P) hl (by simp [recC]), hdone xs _ hS (hI.putObj _ hi (Nat.le_refl _) hl rfl)⟩
      · exact ⟨some c, _, run_endLoop (P := P) hl (by simp [recC]), hstop c pre _ hSp ((hIx c).putObj _ hi (Nat.le_refl _) hl rfl)⟩
end
end Go.Proofs.YtejccafolfeabaaGreatDoor

/-
  utf.Each: the iterator over the runes of a text.
-/
namespace Go.Proofs.YtejccafolfeabaaGreatDoor
open Go.RowKit Go.Shelf
attribute [local go_sem] Oper.semAt_some

/-- A rune's place and the rune, as utf.Each gives them. -/
def encU (x : Nat × Nat × Nat) : Array Value := #[.int .i64 (x.2.1 : Nat), .int .i32 (x.1 : Nat)]
/-- How far the runes have come. -/
def UAt (s : ByteArray) (f p : Nat) (pre : List (Nat × Nat × Nat)) : Prop := pre ++ runesGo s f p = runesP s ∧ s.size ≤ p + f ∧ p ≤ s.size
theorem uAt_first (s : ByteArray) : UAt s s.size 0 [] := ⟨rfl, by omega, by omega⟩
theorem uAt_next {s : ByteArray} {f p R W : Nat} {pre : List (Nat × Nat × Nat)} (h : UAt s f p pre) (hp : p < s.size) (hd : Utf8.decode s p = (R, W)) (hw : 1 ≤ W ∧ p + W ≤ s.size) : ∃ g, UAt s g (p + W) (pre ++ [(R, p, p + W)]) := by
  obtain ⟨g, rfl, hg⟩ := runesGo_step (s := s) (f := f) hp h.2.1
  rw [hd] at hg
  exact ⟨g, by rw [← h.1, hg]; simp, by have := h.2.1; omega, hw.2⟩
theorem uAt_pre {s : ByteArray} {f p : Nat} {pre : List (Nat × Nat × Nat)} (h : UAt s f p pre) : pre <+: runesP s := ⟨_, h.1⟩
theorem uAt_end {s : ByteArray} {f p : Nat} {pre : List (Nat × Nat × Nat)} (h : UAt s f p pre) (hp : ¬ p < s.size) : pre = runesP s := by
  have := h.1
  rw [runesGo_end (by omega), List.append_nil] at this
  exact this
set_option maxRecDepth 100000 in
theorem uEach_any (s : ByteArray) (w : World) : Calls Tryz.prog 57 #[.string s] w fun e w' => ∃ bs, e = .returned (.func (.func 90) #[] #[.pointer (some ⟨bs, 0, none⟩)]) ∧ w'.cell? ⟨bs, 0, none⟩ = some (.string s) ∧ RowKit.Below w.heap.size w w' := by
  have hmf : ∀ (fn : Fn) (first cap : Array Value) (w : World), (Instr.makeFunc fn first cap).run Tryz.prog w = .ok (.func fn first cap) w := fun _ _ _ _ => rfl
  go_enter Tryz.func57, Tryz.ntmps57
  go_wp2
  go_ret
  exact ⟨_, rfl, (Blk.new w 9 #[.string s]).cell 0, (RowKit.Below.refl _ _).alloc (Nat.le_refl _) _⟩
set_option maxRecDepth 100000 in
set_option maxHeartbeats 1000000 in
theorem uEach_stops (n : Nat) (hn : 1 ≤ n) (w : World) (s : ByteArray) (bs : Nat) (h : w.cell? ⟨bs, 0, none⟩ = some (.string s)) :
    SeqStopsK Fence.wide n Tryz.prog 90 #[.pointer (some ⟨bs, 0, none⟩)] encU KeepsWalks (fun ys => ys = runesP s) (fun pre => pre <+: runesP s) (runesP s).length w := by
  intro l J Jx W hW hJ _ hY h0
  have hc1 : W.cell? ⟨bs, 0, none⟩ = some (.string s) := cell_keep h hW
  refine callsIn_of_wp Tryz.func90 rfl trivial ?_ rfl
  simp only [Tryz.ntmps90, List.size_toArray, List.length_cons, List.length_nil, Nat.reduceAdd, Nat.reduceSub, Array.replicate_succ, Array.replicate_zero, List.push_toArray, List.append_toArray, List.nil_append, List.cons_append]
  gi_wp2
  gi_loopw [3] (fun _ wr => ∃ (f p : Nat) (pre : List (Nat × Nat × Nat)), Hid (UAt s f p pre) ∧ J pre wr ∧ wr.heap[W.heap.size]? = some (.stringIter s p))
    (fun _ wr => s.size - wr.iterPos W.heap.size)
  case atStart => exact ⟨s.size, 0, [], uAt_first s, abides_below hJ h0 (below_iter (RowKit.Below.refl _ _) (Nat.le_refl _) _ _), iter_new _ _ _⟩
  case round =>
    obtain ⟨f, p, pre, HA, hJs, hit⟩ := hrel
    have Hpos := Lib.hid (iterPos_of hit)
    by_cases hp : p < s.size
    · obtain ⟨⟨R, Wd⟩, hD0⟩ : ∃ d, Utf8.decode s p = d := ⟨_, rfl⟩
      have hd := dec_bd s p hp
      have hnx : ∀ ty, (Instr.next (.pointer (some ⟨W.heap.size, 0, none⟩)) true ty).run Tryz.prog wr = _ := fun ty => Lib.run_next_any_at wr W.heap.size s p ty hit hp
      have hit2 := Lib.iterAt_heap wr W.heap.size s p (p + (Utf8.decode s p).2) hit
      have hJ2 := abides_iterAt hJ hJs hit (Nat.le_refl _) (p + (Utf8.decode s p).2)
      rw [hD0] at hd hnx hit2 hJ2
      simp only at hd hnx hit2 hJ2
      obtain ⟨g, hg⟩ := uAt_next HA.out hp hD0 ⟨hd.1, hd.2.2.1⟩
      have Hg := Lib.hid hg
      have hlen : pre.length < (runesP s).length := by have := (uAt_pre hg).length_le; rw [List.length_append, List.length_singleton] at this; omega
      clear hD0 hg
      generalize wr.iterAt W.heap.size s (p + Wd) = wi at hnx hit2 hJ2
      clear hJs hit
      obtain ⟨fn, tmps, assign, body, hy, hR⟩ := hY pre (R, p, p + Wd) wi hJ2 hlen
      dsimp only [encU] at hy
      gi_wp2_with fail
      refine hR.mono ?_
      rintro e w4 (⟨rfl, hJ4, hk4⟩ | ⟨rfl, hJx4⟩)
      · have hit4 := hk4.same _ _ hit2 rfl
        gi_wp2_with fail
        go_roundw
        case rel => exact ⟨g, p + Wd, pre ++ [(R, p, p + Wd)], Hg, hJ4, hit4⟩
        case measure => rw [iterPos_of hit4, Hpos.out]; omega
      · gi_wp2
        refine bodyPost_ret (results_none rfl _ _ _) rfl ?_
        exact ⟨⟨_, rfl⟩, .inr ⟨_, uAt_pre Hg.out, hJx4⟩⟩
    · have hnx : ∀ ty, (Instr.next (.pointer (some ⟨W.heap.size, 0, none⟩)) true ty).run Tryz.prog wr = _ := fun ty => Lib.run_next_end_at wr W.heap.size s p ty hit hp
      have HE := Lib.hid (uAt_end HA.out hp)
      gi_wp2
      go_end0
      exact ⟨⟨_, rfl⟩, .inl ⟨_, HE.out, hJs⟩⟩
end Go.Proofs.YtejccafolfeabaaGreatDoor

/-
  runes.Each: the iterator over a set's runes.
-/
namespace Go.Proofs.YtejccafolfeabaaGreatDoor
open Go.RowKit Go.Shelf
attribute [local go_sem] Oper.semAt_some

/-- The runes of one range; of a list of ranges. -/
def spanR (lo : Int) (n : Nat) : List Int := (List.range n).map fun (i : Nat) => lo + (i : Int)
def eachL (L : List (Int × Int)) : List Int := L.flatMap fun x => spanR x.1 (x.2 - x.1 + 1).toNat
theorem spanR_succ (lo : Int) (n : Nat) : spanR lo (n + 1) = spanR lo n ++ [lo + (n : Int)] := by unfold spanR; rw [List.range_succ, List.map_append]; rfl
theorem spanR_prefix (lo : Int) {j n : Nat} (h : j ≤ n) : spanR lo j <+: spanR lo n := by
  obtain ⟨k, rfl⟩ := Nat.exists_eq_add_of_le h
  induction k with
  | zero => exact List.prefix_refl _
  | succ k ih => rw [← Nat.add_assoc, spanR_succ]; exact (ih (by omega)).trans (List.prefix_append _ _)
theorem eachL_take {L : List (Int × Int)} {i : Nat} {x : Int × Int} (h : L[i]? = some x) : eachL (L.take (i + 1)) = eachL (L.take i) ++ spanR x.1 (x.2 - x.1 + 1).toNat := by
  unfold eachL; rw [List.take_add_one, h, Option.toList_some, List.flatMap_append]; simp
theorem eachL_prefix {L : List (Int × Int)} {i j : Nat} {x : Int × Int} (h : L[i]? = some x) (hj : j ≤ (x.2 - x.1 + 1).toNat) : eachL (L.take i) ++ spanR x.1 j <+: eachL L := by
  have h1 : eachL (L.take i) ++ spanR x.1 j <+: eachL (L.take (i + 1)) := by rw [eachL_take h]; exact (List.prefix_append_right_inj _).2 (spanR_prefix _ hj)
  refine h1.trans ?_
  refine ⟨eachL (L.drop (i + 1)), ?_⟩
  unfold eachL
  rw [← List.flatMap_append, List.take_append_drop]
/-- Cells from block m on stand as they stood, but for the blocks of X. -/
structure KC (m : Nat) (X : Nat → Prop) (W W' : World) : Prop where
  size : W.heap.size ≤ W'.heap.size
  same : ∀ (k : Nat) (o : Obj), m ≤ k → ¬ X k → W.heap[k]? = some o → o.isCells = true → W'.heap[k]? = some o
  walks : KeepsWalks W W'
theorem KC.refl (m : Nat) (X : Nat → Prop) (W : World) : KC m X W W := ⟨Nat.le_refl _, fun _ _ _ _ h _ => h, KeepsWalks.refl _⟩
theorem KC.trans {m : Nat} {X : Nat → Prop} {A B C : World} (h : KC m X A B) (k : KC m X B C) : KC m X A C :=
  ⟨Nat.le_trans h.size k.size, fun i o hm hx ho hc => k.same i o hm hx (h.same i o hm hx ho hc) hc, h.walks.trans k.walks⟩
theorem KC.put {m : Nat} {X : Nat → Prop} (W : World) (l : Nat) (o o' : Obj) (h : W.heap[l]? = some o) (hc : o.isCells = false) (hw : o.isWalk = false) : KC m X W (W.putObj l o') :=
  ⟨by simp, fun k o2 _ _ hk hk2 => by
    by_cases e : k = l
    · subst e; rw [h] at hk; cases hk; rw [hc] at hk2; cases hk2
    · exact (World.putObj_heap_other e).trans hk, KeepsWalks.putObj o' h hw⟩
theorem KC.blk {m : Nat} {X : Nat → Prop} {W W' : World} (h : KC m X W W') {g : Nat} {t : TypeId} {cs : Array Value} (hB : Blk W g t cs) (hm : m ≤ g) (hx : ¬ X g) : Blk W' g t cs := h.same g _ hm hx hB rfl
theorem KC.cell {m : Nat} {X : Nat → Prop} {W W' : World} (h : KC m X W W') {b i : Nat} {v : Value} (hv : W.cell? ⟨b, i, none⟩ = some v) (hm : m ≤ b) (hx : ¬ X b) : W'.cell? ⟨b, i, none⟩ = some v := by
  cases ho : W.heap[b]? with
  | none => unfold World.cell? at hv; rw [ho] at hv; cases hv
  | some o =>
    cases hc : o.isCells with
    | true => exact (World.cell?_of_block ((h.same b o hm hx ho hc).trans ho.symm)).trans hv
    | false => unfold World.cell? at hv; rw [ho] at hv; cases o <;> simp_all [Obj.isCells]
theorem KC.rd {m : Nat} {X : Nat → Prop} {w w' : World} {s : Nat} {A : Option Addr} {cs : List (List Value)} (h : KC m X w w') (hr : Rd w s A cs) (hA : ∀ a, A = some a → m ≤ a.block ∧ ¬ X a.block) : Rd w' s A cs :=
  hr.keep fun b off _ _ ha hp => h.cell hp (hA ⟨b, off, none⟩ ha).1 (hA ⟨b, off, none⟩ ha).2

/-- What the iterator's box holds; m: where its blocks begin. -/
def EachIt (w : World) (L : List (Int × Int)) (m bx : Nat) : Prop :=
  ∃ A na ca, w.cell? ⟨bx, 0, none⟩ = some (.slice A na ca) ∧ Rd w 2 A (L.map encR) ∧ L.length = na ∧ na ≤ 4000000 ∧ m ≤ bx ∧ ∀ a, A = some a → m ≤ a.block ∧ a.block < w.heap.size
end Go.Proofs.YtejccafolfeabaaGreatDoor

/-
  props.(*Db).Each: an iterator over utf.Each's, walked.
-/
namespace Go.Proofs.YtejccafolfeabaaGreatDoor
open Go.RowKit Go.Shelf Go.Maps
attribute [local go_sem] Oper.semAt_some

/-- A round's contract at whatever depth, where no depth is asked. -/
theorem round_any {m m' : Nat} {P : Program} {l l2 : Nat} {f : FuncId} {tmps : Array Value} {assign body : Code} {w : World} {R : Ending → World → Prop} (h : RoundIn Fence.wide m P l f tmps assign body w R) : RoundIn (Fence.wide.inRound l2) m' P l f tmps assign body w R :=
  ⟨h.1, fun c cs _ => h.2 c cs (room_wide _)⟩
/-- What a round keeps: what lay below m; cells but in the blocks of X; iterators. -/
def KpB (m : Nat) (X : Nat → Prop) (A B : World) : Prop := RowKit.Below m A B ∧ KC 0 X A B
theorem KpB.refl (m : Nat) (X : Nat → Prop) (W : World) : KpB m X W W := ⟨RowKit.Below.refl _ _, KC.refl _ _ _⟩
theorem KpB.trans {m : Nat} {X : Nat → Prop} {A B C : World} (h : KpB m X A B) (k : KpB m X B C) : KpB m X A C := ⟨h.1.trans k.1, h.2.trans k.2⟩
theorem KpB.put {m : Nat} {X : Nat → Prop} {w : World} (hm : m ≤ w.heap.size) (W : World) (l : Nat) (o o' : Obj) (hl : w.heap.size ≤ l) (h : W.heap[l]? = some o) (hc : o.isCells = false) (hw : o.isWalk = false) : KpB m X W (W.putObj l o') :=
  ⟨belowK_b (w := w) hm W l o o' hl h hc hw, KC.put W l o o' h hc hw⟩
theorem keepsFrom_below {B : Nat} {A C : World} (h : RowKit.Below A.heap.size A C) : KeepsFrom B A C := ⟨h.size, fun k _ _ hk _ => (h.block k (Array.getElem?_eq_some_iff.1 hk).1).trans hk⟩
theorem keepsWalks_below {A C : World} (h : RowKit.Below A.heap.size A C) : KeepsWalks A C := ⟨h.size, fun k _ hk _ => (h.block k (Array.getElem?_eq_some_iff.1 hk).1).trans hk⟩
theorem keeps_later {B C : Nat} {A D : World} (h : KeepsFrom B A D) (hBC : B ≤ C) : KeepsFrom C A D := ⟨h.size, fun k o hk h0 ho => h.same k o (Nat.le_trans hBC hk) h0 ho⟩
/-- A rune's place and its class. -/
def encC (d : DbP) (x : Nat × Nat × Nat) : Array Value := #[.int .i64 (x.2.1 : Nat), .int .i64 (d.get (x.1 : Nat) : Nat)]
set_option maxRecDepth 100000 in
theorem wEach_any (q : Option Addr) (s : ByteArray) (w : World) : Calls Tryz.prog 29 #[.pointer q, .string s] w fun e w' => ∃ bd bs, e = .returned (.func (.func 56) #[] #[.pointer (some ⟨bd, 0, none⟩), .pointer (some ⟨bs, 0, none⟩)]) ∧
    w'.cell? ⟨bd, 0, none⟩ = some (.pointer q) ∧ w'.cell? ⟨bs, 0, none⟩ = some (.string s) ∧ RowKit.Below w.heap.size w w' := by
  have hmf : ∀ (fn : Fn) (first cap : Array Value) (w : World), (Instr.makeFunc fn first cap).run Tryz.prog w = .ok (.func fn first cap) w := fun _ _ _ _ => rfl
  go_enter Tryz.func29, Tryz.ntmps29
  go_wp2
  go_ret
  refine ⟨_, _, rfl, cell_keep ((Blk.new w 25 #[.pointer q]).cell 0) ((RowKit.Below.refl _ _).alloc (Nat.le_refl _) _), ?_, ((RowKit.Below.refl _ _).alloc (Nat.le_refl _) _).alloc (by simp) _⟩
  have := (Blk.new (w.alloc (.cells #[.pointer q] 25)) 9 #[.string s]).cell 0
  rw [World.size_alloc] at this
  exact this
set_option maxRecDepth 100000 in
set_option maxHeartbeats 4000000 in
theorem wEach_seq (n : Nat) (hn : 4 ≤ n) (w w0 : World) (s : ByteArray) (p bd bs : Nat) (X : Nat → Prop) (d : DbP) (hw : RowKit.Below w.heap.size w w0) (hX : ∀ b, X b → w.heap.size ≤ b ∧ b < w0.heap.size) (hd : DbAt w p d) (ho : d.Ok) (ha : Apart d.sets) (h1 : w.cell? ⟨bd, 0, none⟩ = some (.pointer (some ⟨p, 0, none⟩))) (h2 : w.cell? ⟨bs, 0, none⟩ = some (.string s)) :
    SeqC Fence.wide n Tryz.prog 56 #[.pointer (some ⟨bd, 0, none⟩), .pointer (some ⟨bs, 0, none⟩)] (encC d) (KpB w.heap.size X) (fun ys => ys = runesP s) (fun pre => pre <+: runesP s) (runesP s).length w0 := by
  intro l J Jx W hW0 hJ hJx hY h0
  have hW : RowKit.Below w.heap.size w W := hw.trans (hW0.mono hw.size)
  have hz0 := hW0.size
  have HGet := Lib.hid (fun r V h => wGet_any p d r V h ho ha)
  have c1 := cell_keep h1 hW
  have hA0 : RowKit.Below W.heap.size W (W.alloc (.cells #[.func (.yield l) #[] #[]] 96)) := (RowKit.Below.refl _ _).alloc (Nat.le_refl _) _
  have B0 : Blk (W.alloc (.cells #[.func (.yield l) #[] #[]] 96)) W.heap.size 96 #[.func (.yield l) #[] #[]] := Blk.new _ _ _
  have a1 := cell_keep c1 hA0
  have a2 := cell_keep (cell_keep h2 hW) hA0
  refine callsIn_of_wp_marks Tryz.func56 rfl trivial ?_ rfl
  simp only [Tryz.ntmps56, List.size_toArray, List.length_cons, List.length_nil, Nat.reduceAdd, Nat.reduceSub, Array.replicate_succ, Array.replicate_zero, List.push_toArray, List.append_toArray, List.nil_append, List.cons_append]
  refine wpIn_wide.2 ?_
  clear ho ha
  go_wp2_with fail
  generalize (W.alloc (.cells #[.func (.yield l) #[] #[]] 96)) = W0 at hA0 B0 a1 a2 ⊢
  refine (uEach_any s W0).mono ?_
  rintro e w1 ⟨bu, rfl, hu, hb⟩
  have hb1 := below_two hA0 hb
  have B1 := B0.below hb
  have hJ1 : J [] w1 := hJ [] W w1 none h0 (grown_of_below hb1) (fun r e => by cases e)
  have hz1 : W.heap.size < w1.heap.size := B1.lt
  have hzW := hW.size
  clear hb hA0 B0 a1 a2
  go_wp2_with fail
  refine (wpIn_wide (n := n)).1 ?_
  refine rngH rfl (by omega) (gf := 90) (lb := #[.pointer (some ⟨bu, 0, none⟩)]) rfl trivial (enters_of Tryz.func90 (by kernel_rfl) rfl)
    (uEach_stops (n - 1) (by omega) w1 s bu hu) (fun h k => h.trans k) walksK_b (RowKit.Below.refl _ _) (fun _ => rfl) (fun _ => KeepsWalks.refl _)
    (fun pre V => J pre V ∧ Blk V W.heap.size 96 #[.func (.yield l) #[] #[]] ∧ RowKit.Below w.heap.size w V)
    (fun c pre V => c = .ret ∧ Jx pre V)
    (OwnFrom.and (own_later hJ (by omega)) (OwnFrom.and (Go.Own.from (fun s A B row hs hg hr => hs.kept hg hr) _) (ownFrom_below (Nat.le_refl _) (by omega))))
    (fun c s X Y row hs hg hr => ⟨hs.1, own_later hJx (by omega) s X Y row hs.2 hg hr⟩) ⟨hJ1, B1, hW.trans (hb1.mono hzW)⟩
    (fun T x => ((((T.setIfInBounds 10 (.int .i64 (x.2.1 : Nat))).setIfInBounds 11 (.int .i32 (x.1 : Nat))).setIfInBounds 4 (.int .i64 (x.2.1 : Nat))).setIfInBounds 5 (.int .i32 (x.1 : Nat)))) ?assign ?body ?done ?stop
  case assign =>
    intro l2 x V K hK
    simp only [List.setIfInBounds_toArray, List.set_cons_succ, List.set_cons_zero] at hK
    simp only [encU]
    gi_wp2
    exact hK
  case body =>
    rintro l2 pre ⟨R, pp, qq⟩ V hl ⟨r, hr⟩ ⟨hj, B, hbV⟩ hlen
    have b0 := B.cell 0
    simp only [List.getElem?_toArray, List.getElem?_cons_zero] at b0
    have b1 := cell_keep h1 hbV
    have hmx : Tryz.prog.follows .mixedOrders = true := by kernel_rfl
    simp only [List.setIfInBounds_toArray, List.set_cons_succ, List.set_cons_zero]
    have hYV := fun V2 (hb2 : RowKit.Below V.heap.size V V2) => YieldAt.mono (R' := fun e W' => ∃ b : Bool, e = .returned (.bool b) ∧ (b = true → J (pre ++ [(R, pp, qq)]) W' ∧ KpB w.heap.size X V2 W' ∧ KeepsFrom W.heap.size V2 W') ∧ (b = false → Jx (pre ++ [(R, pp, qq)]) W' ∧ KeepsFrom W.heap.size V2 W'))
      (hY pre (R, pp, qq) V2 (hJ pre V V2 none hj (grown_of_below hb2) (fun r e => by cases e)) hlen) (by
        rintro e W' (⟨h1, h2, h3, h4⟩ | ⟨h1, h2, h3⟩)
        · exact ⟨true, h1, fun _ => ⟨h2, h3, h4⟩, fun h => absurd h (by decide)⟩
        · exact ⟨false, h1, fun h => absurd h (by decide), fun _ => ⟨h2, h3⟩⟩)
    gi_wp2_with fail
    gi_region_with_o (first
      | (refine ⟨trivial, fun h => (by cases h), ?_⟩; gi_at_call 22; refine (CallsIn.inRound l2 (callsIn_wide.2 (HGet.out _ _ (hd.below hbV.drew)))).mono ?_; rintro e V2 ⟨rfl, hb2⟩; have hbd := below_two (Below.refl V.heap.size V).drew hb2; have b02 := cell_keep b0 hbd; obtain ⟨fn, tmps, assign, body, hy, hR⟩ := hYV V2 hbd; dsimp only [encC] at hy)
      | (refine ⟨fun h => (by cases h), ?_⟩; refine (round_any hR).mono ?_; rintro e W4 ⟨b, rfl, hbt, hbf⟩))
    all_goals
      cases b with
      | true =>
        obtain ⟨hj4, hk4, hf4⟩ := hbt rfl
        gi_wp2
        exact ⟨(keepsFrom_below hbd).trans (keeps_later hf4 (by omega)), (keepsWalks_below hbd).trans hk4.2.walks, hj4, hk4.2.blk (B.below hbd) (Nat.zero_le _) (fun h => by have := (hX _ h).2; omega), (hbV.trans (hbd.mono hbV.size)).trans hk4.1⟩
      | false =>
        obtain ⟨hj4, hf4⟩ := hbf rfl
        gi_wp2
        exact ⟨(keepsFrom_below hbd).trans (keeps_later hf4 (by omega)), rfl, hj4⟩
  case done =>
    rintro D ys V hD hys ⟨hj, B, hbV⟩ hK
    gi_wp2
    refine ⟨by simp, .inl ⟨_, _, rfl, run_takeDeferred hK, ?_⟩⟩
    exact ⟨_, results_none rfl _ _ _, ⟨_, rfl⟩, .inl ⟨_, hys, hJ.putObj _ hj (by omega) hK rfl⟩⟩
  case stop =>
    rintro D c pre V hD hp ⟨rfl, hjx⟩ hK
    gi_wp2
    refine ⟨by simp, .inl ⟨_, _, rfl, run_takeDeferred hK, ?_⟩⟩
    exact ⟨_, results_none rfl _ _ _, ⟨_, rfl⟩, .inr ⟨_, hp, hJx.putObj _ hjx (by omega) hK rfl⟩⟩
end Go.Proofs.YtejccafolfeabaaGreatDoor

/-
  PLAIN, for the walks of kerfref04: a rune in quotes by the document's word; the scan of a line, step by step; trimmed from both ends.
-/
namespace Go.Proofs.YtejccafolfeabaaGreatDoor

theorem runeAt_app : ∀ (p l : List UInt8) (a : Nat), runeAt (bytesOf (p ++ l)) (p.length + a) = runeAt (bytesOf l) a
  | [], l, a => by rw [List.nil_append, List.length_nil, Nat.zero_add]
  | c :: p, l, a => by rw [List.cons_append, List.length_cons, show p.length + 1 + a = (p.length + a) + 1 by omega, runeAt_sh]; exact runeAt_app p l a
theorem runeAt_drop (s : ByteArray) (a b : Nat) (h : a ≤ s.size) : runeAt s (a + b) = runeAt (bytesOf (s.data.toList.drop a)) b := by
  have h1 := runeAt_app (s.data.toList.take a) (s.data.toList.drop a) b
  rw [List.take_append_drop, bytesOf_data, List.length_take, size_data, Nat.min_eq_left h] at h1
  exact h1
/-- The document's word on a rune in quotes. -/
theorem quoted_qt (s : ByteArray) (a : Nat) (h : a ≤ s.size) : match qtL (s.data.toList.drop a) with
    | some k => (quotedP s a).2.2 = true ∧ (quotedP s a).2.1 + 2 = k
    | none => (quotedP s a).2.2 = false := by
  unfold quotedP
  cases hd : s.data.toList.drop a with
  | nil =>
    have : (rest s a).head? = none := by unfold rest; rw [hd]; rfl
    rw [if_neg (by rw [this]; simp)]; rfl
  | cons c r =>
    have h1 := runeAt_drop s a 1 h
    rw [hd] at h1
    rw [qtS_cons, ← h1]
    have h2 : (rest s a).head? = some c := by unfold rest; rw [hd]; rfl
    have h3 : (rest s (a + 1 + (runeAt s (a + 1)).2)).head? = r[(runeAt s (a + 1)).2]? := by
      unfold rest
      rw [Nat.add_assoc, ← List.drop_drop, hd, Nat.add_comm 1, List.drop_succ_cons, List.head?_drop]
    rw [h2, h3]
    by_cases hc : c = 39 ∧ (runeAt s (a + 1)).2 ≠ 0 ∧ r[(runeAt s (a + 1)).2]? = some 39
    · rw [if_pos hc, if_pos ⟨by rw [hc.1], hc.2⟩]
      exact ⟨rfl, rfl⟩
    · rw [if_neg hc, if_neg (fun k => hc ⟨by injection k.1, k.2⟩)]

def cutD (l : List UInt8) (i : Nat) (semi : Option Nat) : Nat × Option Nat := cutGo l.length l i semi
theorem cutD_fuel {f : Nat} {l : List UInt8} (i : Nat) (semi : Option Nat) (h : l.length ≤ f) : cutGo f l i semi = cutD l i semi := by
  unfold cutD
  rw [cutGo_eq f l i semi h, cutGo_eq l.length l i semi (Nat.le_refl _)]
/-- How far the scan has come. -/
def CutAt (L : List UInt8) (i : Nat) (semi : Option Nat) : Prop := i ≤ L.length ∧ cutD (L.drop i) i semi = cutD L 0 none ∧ ∀ k, semi = some k → k ≤ i
theorem cutAt_first (L : List UInt8) : CutAt L 0 none := ⟨by omega, by rw [List.drop_zero], fun k h => by cases h⟩
theorem cutAt_qt {L : List UInt8} {i k : Nat} {semi : Option Nat} (h : CutAt L i semi) (hq : qtL (L.drop i) = some k) : CutAt L (i + k) semi := by
  have hk := qtL_some hq
  rw [List.length_drop] at hk
  refine ⟨by omega, ?_, fun j hj => by have := h.2.2 j hj; omega⟩
  rw [← h.2.1]
  cases hd : L.drop i with
  | nil => rw [hd] at hq; cases hq
  | cons x r =>
    rw [hd] at hq
    unfold cutD
    rw [List.length_cons, cutGo]
    simp only [hq]
    have h2 : (x :: r).drop k = L.drop (i + k) := by rw [← hd, List.drop_drop]
    rw [h2]
    have h3 : (L.drop (i + k)).length ≤ r.length := by
      have : (L.drop i).length = r.length + 1 := by rw [hd]; rfl
      rw [List.length_drop] at this ⊢; omega
    rw [cutD_fuel (i + k) semi h3]; rfl
section
variable {L : List UInt8} {i : Nat} {semi : Option Nat} {x : UInt8} (h : CutAt L i semi) (hx : L[i]? = some x) (hq : qtL (L.drop i) = none)
include h hx hq
theorem cutAt_step : cutD L 0 none = if x = 35 then (i, semi) else if x = 59 ∧ semi = none then cutD (L.drop (i + 1)) (i + 1) (some i) else cutD (L.drop (i + 1)) (i + 1) semi := by
  rw [← h.2.1, drop_at hx]
  rw [drop_at hx] at hq
  unfold cutD
  rw [List.length_cons, cutGo]
  simp only [hq]
theorem cutAt_hash (he : x = 35) : cutD L 0 none = (i, semi) := by rw [cutAt_step h hx hq, if_pos he]
theorem cutAt_semi (he : x = 59) (hs : semi = none) : CutAt L (i + 1) (some i) :=
  ⟨(List.getElem?_eq_some_iff.1 hx).1, by rw [cutAt_step h hx hq, if_neg (by rw [he]; decide), if_pos ⟨he, hs⟩], fun k hk => by injection hk with hk; omega⟩
theorem cutAt_go (he : x ≠ 35) (hs : ¬ (x = 59 ∧ semi = none)) : CutAt L (i + 1) semi :=
  ⟨(List.getElem?_eq_some_iff.1 hx).1, by rw [cutAt_step h hx hq, if_neg he, if_neg hs], fun k hk => by have := h.2.2 k hk; omega⟩
end
theorem cutAt_end {L : List UInt8} {i : Nat} {semi : Option Nat} (h : CutAt L i semi) (hi : ¬ i < L.length) : cutD L 0 none = (L.length, semi) := by
  rw [← h.2.1, List.drop_of_length_le (by omega)]
  have : i = L.length := by have := h.1; omega
  rw [← this]; rfl
theorem cutD_is (L : List UInt8) : cutD L 0 none = (hashP L, findP 59 (L.take (hashP L))) := by
  unfold cutD
  rw [cutGo_eq L.length L 0 none (Nat.le_refl _), Nat.zero_add]
  congr 1
  cases findP 59 (L.take (hashP L)) <;> rfl

theorem ext_bytes (l : List UInt8) (a : Nat) : (bytesOf l).extract a (bytesOf l).size = bytesOf (l.drop a) := by
  apply ByteArray.ext; apply Array.toList_inj.1
  rw [rest_extract, bytesOf_list]; unfold rest; rw [bytesOf_list]
theorem ext_bytes0 (l : List UInt8) (a : Nat) : (bytesOf l).extract 0 a = bytesOf (l.take a) := by
  apply ByteArray.ext; apply Array.toList_inj.1
  rw [Lib.extract_data, bytesOf_list, bytesOf_list]; simp
theorem ext_bytes2 (l : List UInt8) (a b : Nat) : (bytesOf l).extract a b = bytesOf ((l.drop a).take (b - a)) := by
  apply ByteArray.ext; apply Array.toList_inj.1
  rw [Lib.extract_data, bytesOf_list, bytesOf_list]
theorem trim_last {l : List UInt8} {c : UInt8} (hl : l.getLast? = some c) : (blkB c = true → trimR l = trimR (l.take (l.length - 1))) ∧ (blkB c = false → trimR l = l) := by
  have hs : l = l.dropLast ++ [c] := by
    rcases List.eq_nil_or_concat l with rfl | ⟨o, y, rfl⟩
    · cases hl
    · simp at hl; subst hl; simp
  have hd : l.take (l.length - 1) = l.dropLast := by rw [List.dropLast_eq_take]
  rw [hd]
  constructor
  · intro h
    conv => lhs; rw [hs]
    exact trimR_app (by intro d hd; simp at hd; subst hd; exact h)
  · intro h
    unfold trimR
    rw [hs, List.reverse_append]
    rw [show [c].reverse ++ l.dropLast.reverse = c :: l.dropLast.reverse from rfl, dropWhile_stop h]
    simp
theorem trimR_nil : trimR [] = [] := rfl
theorem drop_blank {c : UInt8} {r : List UInt8} (h : blkB c = true) : (c :: r).dropWhile blkB = r.dropWhile blkB := by rw [List.dropWhile_cons, if_pos h]
end Go.Proofs.YtejccafolfeabaaGreatDoor

/-
  kerfref04: blank, trim, cut, walked.
-/
namespace Go.Proofs.YtejccafolfeabaaGreatDoor
open Go.RowKit Go.Maps

theorem blk_true {c : UInt8} (h : (c.toNat : Int) = 32 ∨ (c.toNat : Int) = 9) : blkB c = true := by
  have h1 : c = 32 ↔ c.toNat = 32 := u8_eq (n := 32) (by omega)
  have h2 : c = 9 ↔ c.toNat = 9 := u8_eq (n := 9) (by omega)
  simp only [blkB, Bool.or_eq_true, beq_iff_eq, h1, h2]; omega
theorem blk_false {c : UInt8} (h : ¬ ((c.toNat : Int) = 32 ∨ (c.toNat : Int) = 9)) : blkB c = false := by
  cases hb : blkB c with
  | false => rfl
  | true =>
    have h1 : c = 32 ↔ c.toNat = 32 := u8_eq (n := 32) (by omega)
    have h2 : c = 9 ↔ c.toNat = 9 := u8_eq (n := 9) (by omega)
    refine absurd ?_ h
    simp only [blkB, Bool.or_eq_true, beq_iff_eq, h1, h2] at hb; omega
theorem vblank_any (c : UInt8) (w : World) : Calls Tryz.prog 113 #[.int .u8 (c.toNat : Int)] w fun e w' => e = .returned (.bool (blkB c)) ∧ w = w' := by
  have HT := Lib.hid (@blk_true c)
  have HF := Lib.hid (@blk_false c)
  generalize (c.toNat : Int) = z at HT HF
  rcases (by omega : z = 32 ∨ z = 9 ∨ (z ≠ 32 ∧ z ≠ 9)) with h | h | ⟨h, h'⟩
  · have HV := Lib.hid (HT.out (.inl h))
    subst h
    go_enter Tryz.func113, Tryz.ntmps113
    go_wp2
    go_ret
    exact ⟨by rw [HV.out]; rfl, rfl⟩
  · have HV := Lib.hid (HT.out (.inr h))
    subst h
    go_enter Tryz.func113, Tryz.ntmps113
    go_wp2
    go_ret
    exact ⟨by rw [HV.out]; rfl, rfl⟩
  · have HV := Lib.hid (HF.out (by omega))
    have h1 : (z == 32) = false := beq_eq_false_iff_ne.2 h
    have h2 : (z == 9) = false := beq_eq_false_iff_ne.2 h'
    go_enter Tryz.func113, Tryz.ntmps113
    go_wp2
    go_ret
    exact ⟨by rw [HV.out]; rfl, rfl⟩

def strSize : Value → Nat
  | .string s => s.size
  | _ => 0
set_option maxRecDepth 100000 in
set_option maxHeartbeats 2000000 in
theorem vtrim_any (L : List UInt8) (w : World) (hL : L.length ≤ 1000000) : Calls Tryz.prog 78 #[.string (bytesOf L)] w fun e w' => e = .returned (.string (bytesOf (trimL L))) ∧ w = w' := by
  have HTE := Lib.hid (trimL_eq L)
  go_enter Tryz.func78, Tryz.ntmps78
  go_wp2
  go_loopw [0] (fun v wr => ∃ l : List UInt8, v = .string (bytesOf l) ∧ l.length ≤ L.length ∧ Hid (l.dropWhile blkB = L.dropWhile blkB) ∧ wr = w) (fun v _ => strSize v)
  case atStart => exact ⟨L, rfl, by omega, rfl, rfl⟩
  case round =>
    obtain ⟨l, rfl, hl, HD, rfl⟩ := hrel
    have hsz : (bytesOf l).size = l.length := bytesOf_size l
    by_cases hb : ∃ c r, l = c :: r ∧ blkB c = true
    · obtain ⟨c, r, rfl, hc⟩ := hb
      have h0 : 0 < (bytesOf (c :: r)).size := by rw [hsz]; simp
      have hix := index_at (bytesOf (c :: r)) 0 0 rfl h0
      have hg : (bytesOf (c :: r))[0]'h0 = c := by have := get_list h0; rw [bytesOf_list] at this; simpa using this.symm
      rw [hg] at hix
      have hgi : (((bytesOf (c :: r))[0]'h0).toNat : Int) = (c.toNat : Int) := by rw [hg]
      have HX := Lib.hid (ext_bytes (c :: r) 1)
      rw [hsz] at HX
      have hl2 : (r.length : Int) + 1 ≤ 1000000 := by simp at hl; omega
      clear hg
      go_wp2_with (go_at_call 113; refine (vblank_any c _).mono ?_; rw [hc]; rintro e w' ⟨rfl, rfl⟩)
      go_roundw
      case rel => exact ⟨r, by first | exact congrArg Value.string HX.out | (rw [← ext_bytes (c :: r) 1]; rfl), by simp at hl; omega, Lib.hid (by rw [← HD.out, drop_blank hc]), by first | rfl | trivial⟩
      case measure => simp only [strSize, ByteArray.size_extract, bytesOf_size, List.length_cons]; omega
    · have HLD : Hid (l = L.dropWhile blkB) := Lib.hid (by
        rw [← HD.out]
        cases l with
        | nil => rfl
        | cons c r =>
          have : blkB c = false := by
            cases hq : blkB c with
            | false => rfl
            | true => exact absurd ⟨c, r, rfl, hq⟩ hb
          exact (dropWhile_stop this).symm)
      have HTR : Hid (trimL L = trimR l) := Lib.hid (by rw [HTE.out, HLD.out])
      have hstop : l = [] ∨ ∃ c r, l = c :: r ∧ blkB c = false := by
        cases l with
        | nil => exact .inl rfl
        | cons c r =>
          refine .inr ⟨c, r, rfl, ?_⟩
          cases hq : blkB c with
          | false => rfl
          | true => exact absurd ⟨c, r, rfl, hq⟩ hb
      clear hb HD HLD
      rcases hstop with rfl | ⟨c, r, rfl, hc⟩
      · have HT0 : Hid (trimL L = []) := Lib.hid (by rw [HTR.out]; rfl)
        have hz0 : (bytesOf []).size = 0 := rfl
        go_wp2_with fail
        go_loopw [0] (fun v wq => v = .string (bytesOf []) ∧ wq = wr) (fun _ _ => 0)
        case atStart => exact ⟨rfl, rfl⟩
        case round =>
          obtain ⟨rfl, rfl⟩ := hrel
          go_wp2
          go_ret
          exact ⟨by rw [HT0.out]; rfl, rfl⟩
      · have h0 : 0 < (bytesOf (c :: r)).size := by rw [hsz]; simp
        have hix := index_at (bytesOf (c :: r)) 0 0 rfl h0
        have hg : (bytesOf (c :: r))[0]'h0 = c := by have := get_list h0; rw [bytesOf_list] at this; simpa using this.symm
        rw [hg] at hix
        have hgi : (((bytesOf (c :: r))[0]'h0).toNat : Int) = (c.toNat : Int) := by rw [hg]
        clear hg
        go_wp2_with (go_at_call 113; refine (vblank_any c _).mono ?_; rw [hc]; rintro e w' ⟨rfl, rfl⟩)
        go_loopw [0] (fun v wq => ∃ l : List UInt8, v = .string (bytesOf l) ∧ l.length ≤ L.length ∧ Hid (trimR l = trimL L) ∧ wq = wr) (fun v _ => strSize v)
        case atStart => exact ⟨c :: r, rfl, hl, Lib.hid HTR.out.symm, rfl⟩
        case round =>
          clear hix hgi h0
          obtain ⟨l, rfl, hl2, HD, rfl⟩ := hrel
          have hsz2 : (bytesOf l).size = l.length := bytesOf_size l
          rcases List.eq_nil_or_concat l with rfl | ⟨o, y, rfl⟩
          · have HT0 : Hid (trimL L = []) := Lib.hid (by rw [← HD.out]; rfl)
            have hz0 : (bytesOf []).size = 0 := rfl
            go_wp2
            go_ret
            exact ⟨by rw [HT0.out]; rfl, rfl⟩
          · rw [List.concat_eq_append] at *
            have hlast : (o ++ [y]).getLast? = some y := by simp
            have hol : (o ++ [y]).length = o.length + 1 := by simp
            rw [hol] at hsz2 hl2
            have hp : o.length < (bytesOf (o ++ [y])).size := by omega
            have hix := index_at (bytesOf (o ++ [y])) ((o.length : Int) + 1 - 1) o.length (by omega) hp
            have hix2 := index_at (bytesOf (o ++ [y])) (o.length : Int) o.length rfl hp
            have hg : (bytesOf (o ++ [y]))[o.length]'hp = y := by have := get_list hp; rw [bytesOf_list] at this; simpa using this.symm
            rw [hg] at hix hix2
            have hgi : (((bytesOf (o ++ [y]))[o.length]'hp).toNat : Int) = (y.toNat : Int) := by rw [hg]
            clear hg
            cases hy : blkB y with
            | true =>
              have HX : Hid ((bytesOf (o ++ [y])).extract 0 o.length = bytesOf o) := Lib.hid (by rw [ext_bytes0]; simp)
              have HD' : Hid (trimR o = trimL L) := Lib.hid (by rw [← HD.out, (trim_last hlast).1 hy, hol, Nat.add_sub_cancel]; simp)
              go_wp2_with (go_at_call 113; refine (vblank_any y _).mono ?_; rw [hy]; rintro e w' ⟨rfl, rfl⟩)
              go_roundw
              case rel => exact ⟨o, congrArg Value.string HX.out, by omega, HD', by first | rfl | trivial⟩
              case measure => simp only [strSize, ByteArray.size_extract, bytesOf_size, List.length_append, List.length_singleton]; omega
            | false =>
              have HD' : Hid (trimL L = o ++ [y]) := Lib.hid (by rw [← HD.out, (trim_last hlast).2 hy])
              go_wp2_with (go_at_call 113; refine (vblank_any y _).mono ?_; rw [hy]; rintro e w' ⟨rfl, rfl⟩)
              go_ret
              exact ⟨by rw [HD'.out]; rfl, rfl⟩
end Go.Proofs.YtejccafolfeabaaGreatDoor

/-
  kerfref04: Class, meet, walked.
-/
namespace Go.Proofs.YtejccafolfeabaaGreatDoor
open Go.RowKit Go.Maps

/-- The document's database, its parts. -/
structure RfX (w : World) (base p x : Nat) (An : Option Addr) (nn cn : Nat) (As : Option Addr) (ns cs : Nat) (xs : List (Option Addr × Nat × Nat)) (N : List (List UInt8)) (S : List (List (Int × Int))) : Prop where
  blk : Blk w p 75 #[.slice An nn cn, .slice As ns cs]
  pb : base ≤ p
  hn : Own w base 9 1 An nn cn (N.map encNm)
  hs : Own w base 37 1 As ns cs (xs.map encSl)
  hx : Sets w base xs S
  xp : x ≠ p
  xn : ∀ a, An = some a → a.block ≠ x
  xs_ : ∀ a, As = some a → a.block ≠ x
structure RfB (w : World) (base p x : Nat) (N : List (List UInt8)) (S : List (List (Int × Int))) : Prop where
  ex : ∃ (An : Option Addr) (nn cn : Nat) (As : Option Addr) (ns cs : Nat) (xs : List (Option Addr × Nat × Nat)), RfX w base p x An nn cn As ns cs xs N S
section
variable {w w' : World} {base p x : Nat} {An : Option Addr} {nn cn : Nat} {As : Option Addr} {ns cs : Nat} {xs : List (Option Addr × Nat × Nat)} {N : List (List UInt8)} {S : List (List (Int × Int))}
theorem RfX.below (h : RfX w base p x An nn cn As ns cs xs N S) (hb : Below w.heap.size w w') : RfX w' base p x An nn cn As ns cs xs N S := ⟨h.blk.below hb, h.pb, h.hn.below hb, h.hs.below hb, h.hx.below hb, h.xp, h.xn, h.xs_⟩
theorem RfB.below (h : RfB w base p x N S) (hb : Below w.heap.size w w') : RfB w' base p x N S := by
  obtain ⟨a1, a2, a3, a4, a5, a6, a7, h⟩ := h.ex
  exact ⟨a1, a2, a3, a4, a5, a6, a7, h.below hb⟩
theorem RfX.lenN (h : RfX w base p x An nn cn As ns cs xs N S) : N.length = nn := by simpa using h.hn.len
theorem RfX.lenS (h : RfX w base p x An nn cn As ns cs xs N S) : xs.length = ns ∧ S.length = ns := by
  have := h.hs.len; rw [List.length_map] at this
  exact ⟨this, by rw [← h.hx.len]; exact this⟩
theorem types_rf : (9 : TypeId) ≠ 37 ∧ (9 : TypeId) ≠ 75 ∧ (37 : TypeId) ≠ 75 ∧ (9 : TypeId) ≠ 80 ∧ (37 : TypeId) ≠ 80 ∧ (75 : TypeId) ≠ 80 := by decide
/-- A name more. -/
theorem RfX.named {w3 : World} {o : Obj} {n : List UInt8} {A3 : Option Addr} {c3 : Nat} (h : RfX w base p x An nn cn As ns cs xs N S) (ho3 : Own w3 base 9 1 A3 (nn + 1) c3 ((N ++ [n]).map encNm))
    (hg3 : (w.alloc o).grownBy w3 (An.map (·.block))) (hA3 : A3 = An ∨ A3 = some ⟨(w.alloc o).heap.size, 0, none⟩) (hx : x < w.heap.size) (hB : base ≤ w.heap.size) :
    Blk w3 p 75 #[.slice An nn cn, .slice As ns cs] ∧ RfX (w3.setCell ⟨p, 0, none⟩ (.slice A3 (nn + 1) c3)) base p x A3 (nn + 1) c3 As ns cs xs (N ++ [n]) S ∧
      KX base x w (w3.setCell ⟨p, 0, none⟩ (.slice A3 (nn + 1) c3)) ∧ KeepR base w (w3.setCell ⟨p, 0, none⟩ (.slice A3 (nn + 1) c3)) := by
  obtain ⟨t1, t2, t3, t4, t5, t6⟩ := types_rf
  have hg := grown_alloc hg3
  have b3 : Blk w3 p 75 #[.slice An nn cn, .slice As ns cs] := h.blk.grown hg (fun e => by cases An with | none => cases e | some a => simp at e; exact h.hn.off h.blk t2 a rfl e.symm)
  have s3 : Own w3 base 37 1 As ns cs (xs.map encSl) := h.hs.grown hg (fun a ha e => by cases An with | none => cases e | some b => simp at e; exact h.hn.apart h.hs t1 b a rfl ha e.symm)
  have x3 : Sets w3 base xs S := h.hx.grown hg (fun g q e => own_not_R h.hn t4 g q e)
  have hxA3 : ∀ a, A3 = some a → a.block ≠ x := fun a ha => by
    rcases hA3 with e | e
    · exact h.xn a (by rw [← e]; exact ha)
    · rw [e] at ha; injection ha with ha; subst ha; simp; omega
  refine ⟨b3, ⟨?_, h.pb, ?_, ?_, ?_, h.xp, hxA3, h.xs_⟩, ?_, ?_⟩
  · have := b3.set_ 0 (.slice A3 (nn + 1) c3)
    simpa using this
  · exact ho3.setCell (fun a ha => ho3.off b3 t2 a ha) _
  · exact s3.setCell (fun a ha => s3.off b3 t3 a ha) _
  · exact x3.setCell (blk_not_R b3 t6) _
  · refine (KX.grown hg hB (fun k hk => ?_)).trans (KX.setCell w3 h.pb (fun e => h.xp e.symm) _)
    cases An with
    | none => cases hk
    | some a => simp at hk; subst hk; exact ⟨(h.hn.lt a rfl).1, h.xn a rfl⟩
  · exact (KeepR.grown hg (fun g q e => own_not_R h.hn t4 g q e)).trans (KeepR.setCell (blk_not_R b3 t6) _)
/-- A set more: none yet. -/
theorem RfX.moreSet {w3 : World} {o : Obj} {A3 : Option Addr} {c3 : Nat} (h : RfX w base p x An nn cn As ns cs xs N S) (ho3 : Own w3 base 37 1 A3 (ns + 1) c3 ((xs ++ [(none, 0, 0)]).map encSl))
    (hg3 : (w.alloc o).grownBy w3 (As.map (·.block))) (hA3 : A3 = As ∨ A3 = some ⟨(w.alloc o).heap.size, 0, none⟩) (hx : x < w.heap.size) (hB : base ≤ w.heap.size) :
    Blk w3 p 75 #[.slice An nn cn, .slice As ns cs] ∧ RfX (w3.setCell ⟨p, 1, none⟩ (.slice A3 (ns + 1) c3)) base p x An nn cn A3 (ns + 1) c3 (xs ++ [(none, 0, 0)]) N (S ++ [[]]) ∧
      KX base x w (w3.setCell ⟨p, 1, none⟩ (.slice A3 (ns + 1) c3)) ∧ KeepR base w (w3.setCell ⟨p, 1, none⟩ (.slice A3 (ns + 1) c3)) := by
  obtain ⟨t1, t2, t3, t4, t5, t6⟩ := types_rf
  have hg := grown_alloc hg3
  have b3 : Blk w3 p 75 #[.slice An nn cn, .slice As ns cs] := h.blk.grown hg (fun e => by cases As with | none => cases e | some a => simp at e; exact h.hs.off h.blk t3 a rfl e.symm)
  have n3 : Own w3 base 9 1 An nn cn (N.map encNm) := h.hn.grown hg (fun a ha e => by cases As with | none => cases e | some b => simp at e; exact h.hn.apart h.hs t1 a b ha rfl e)
  have x3 : Sets w3 base xs S := h.hx.grown hg (fun g q e => own_not_R h.hs t5 g q e)
  have hxA3 : ∀ a, A3 = some a → a.block ≠ x := fun a ha => by
    rcases hA3 with e | e
    · exact h.xs_ a (by rw [← e]; exact ha)
    · rw [e] at ha; injection ha with ha; subst ha; simp; omega
  refine ⟨b3, ⟨?_, h.pb, ?_, ?_, ?_, h.xp, h.xn, hxA3⟩, ?_, ?_⟩
  · have := b3.set_ 1 (.slice A3 (ns + 1) c3)
    simpa using this
  · exact n3.setCell (fun a ha => n3.off b3 t2 a ha) _
  · exact ho3.setCell (fun a ha => ho3.off b3 t3 a ha) _
  · exact (x3.setCell (blk_not_R b3 t6) _).snoc (Own.nil_ _ _ _ _)
  · refine (KX.grown hg hB (fun k hk => ?_)).trans (KX.setCell w3 h.pb (fun e => h.xp e.symm) _)
    cases As with
    | none => cases hk
    | some a => simp at hk; subst hk; exact ⟨(h.hs.lt a rfl).1, h.xs_ a rfl⟩
  · exact (KeepR.grown hg (fun g q e => own_not_R h.hs t5 g q e)).trans (KeepR.setCell (blk_not_R b3 t6) _)
/-- A set stored. -/
theorem RfX.storeSet {g k b' : Nat} {y : Option Addr × Nat × Nat} {l : List (Int × Int)} (h : RfX w base p x An nn cn (some ⟨g, 0, none⟩) ns cs xs N S) (hk : k < ns) (ho : Own w b' 80 2 y.1 y.2.1 y.2.2 (l.map encR)) (hb : base ≤ b') :
    RfX (w.setCell ⟨g, k, none⟩ (.slice y.1 y.2.1 y.2.2)) base p x An nn cn (some ⟨g, 0, none⟩) ns cs (xs.set k y) N (S.set k l) ∧ KX base x w (w.setCell ⟨g, k, none⟩ (.slice y.1 y.2.1 y.2.2)) := by
  obtain ⟨t1, t2, t3, t4, t5, t6⟩ := types_rf
  have hgp : g ≠ p := h.hs.off h.blk t3 _ rfl
  refine ⟨⟨h.blk.far (p := ⟨g, k, none⟩) (Ne.symm hgp) _, h.pb, ?_, ?_, ?_, h.xp, h.xn, h.xs_⟩, KX.setCell w (q := ⟨g, k, none⟩) (h.hs.lt _ rfl).1 (h.xs_ ⟨g, 0, none⟩ rfl) _⟩
  · exact h.hn.setCell (p := ⟨g, k, none⟩) (fun a ha e => h.hn.apart h.hs t1 a ⟨g, 0, none⟩ ha rfl e) _
  · exact h.hs.storedSl (by rw [h.lenS.1]; exact hk) y
  · refine Sets.set_ (h.hx.setCell (q := ⟨g, k, none⟩) (fun r => own_not_R h.hs t5 g r rfl) _) ?_
    exact (ho.setCell (p := ⟨g, k, none⟩) (fun a ha e => ho.apart h.hs (Ne.symm t5) a ⟨g, 0, none⟩ ha rfl e) _).more hb
end

theorem bytes_inj {a b : List UInt8} : bytesOf a = bytesOf b ↔ a = b := ⟨fun h => by rw [← bytesOf_list a, ← bytesOf_list b, h], fun h => by rw [h]⟩
/-- Behind how many names a name stands. -/
theorem idx_step {N : List (List UInt8)} {n y : List UInt8} {i : Nat} (h : n ∉ N.take i) (hy : N[i]? = some y) : (y = n → N.idxOf? n = some i) ∧ (y ≠ n → n ∉ N.take (i + 1)) := by
  constructor
  · rintro rfl
    rw [List.idxOf?, List.findIdx?_eq_some_iff_getElem]
    obtain ⟨hlt, e⟩ := List.getElem?_eq_some_iff.1 hy
    refine ⟨hlt, by simp [e], fun j hj => ?_⟩
    simp only [Bool.not_eq_true, beq_eq_false_iff_ne]
    intro hjy
    exact h (List.mem_take_iff_getElem.2 ⟨j, by omega, by simpa using hjy⟩)
  · intro hne hm
    rw [List.take_add_one, hy] at hm
    simp at hm
    rcases hm with hm | hm
    · exact h hm
    · exact hne hm.symm
theorem idx_none {N : List (List UInt8)} {n : List UInt8} (h : n ∉ N) : N.idxOf? n = none := by
  rw [List.idxOf?, List.findIdx?_eq_none_iff]
  intro x hx
  simp only [beq_eq_false_iff_ne]
  rintro rfl; exact h hx
set_option maxRecDepth 100000 in
set_option maxHeartbeats 1000000 in
theorem vClass_any (base p x : Nat) (N : List (List UInt8)) (S : List (List (Int × Int))) (n : List UInt8) (w : World) (h : RfB w base p x N S) (hN : N.length ≤ 1000000) :
    Calls Tryz.prog 64 #[.pointer (some ⟨p, 0, none⟩), .string (bytesOf n)] w fun e w' => e = .returned (.tuple #[.int .i64 (((N.idxOf? n).getD 0 : Nat) : Int), .bool (N.idxOf? n).isSome]) ∧ w = w' := by
  obtain ⟨An, nn, cn, As, ns, cs, xs, hX⟩ := h.ex
  have hl := hX.lenN
  have Hl := Lib.hid hl
  have hrd := hX.hn.rd (by omega)
  have c0 := hX.blk.cell 0
  simp only [List.getElem?_toArray, List.getElem?_cons_zero] at c0
  have hnn : nn ≤ 1000000 := by omega
  clear hl h
  go_enter Tryz.func64, Tryz.ntmps64
  go_wp2
  go_loopw [6] (fun v wr => ∃ i : Nat, v = .int .i64 i ∧ i ≤ nn ∧ Hid (n ∉ N.take i) ∧ wr = w) (fun v _ => nn - (intOf v).toNat)
  case atStart => exact ⟨0, rfl, by omega, by simp [Hid], rfl⟩
  case round =>
    obtain ⟨i, rfl, hi, HN, rfl⟩ := hrel
    by_cases hlt : i < nn
    · obtain ⟨y, Hy⟩ : ∃ y, Hid (N[i]? = some y) := ⟨_, Lib.hid (List.getElem?_eq_getElem (show i < N.length by have := Hl.out; omega))⟩
      obtain ⟨b, off, rfl, hc⟩ := hrd.atS Hy.out
      have HI := Lib.hid (idx_step HN.out Hy.out)
      by_cases hyn : y = n
      · have HE := Lib.hid (HI.out.1 hyn)
        subst hyn
        go_wp2
        go_ret2
        exact ⟨by rw [HE.out]; rfl, rfl⟩
      · have HE := Lib.hid (HI.out.2 hyn)
        have e1 : ((bytesOf y).toList == (bytesOf n).toList) = false := by rw [ByteArray.toList_eq, ByteArray.toList_eq, bytesOf_list, bytesOf_list]; exact beq_eq_false_iff_ne.2 hyn
        have e3 : decide (bytesOf y = bytesOf n) = false := decide_eq_false (fun k => hyn (bytes_inj.1 k))
        clear hyn
        go_wp2
        go_roundw
        case rel => exact ⟨i + 1, by go_num, by omega, HE, by first | rfl | trivial⟩
        case measure => simp [intOf]; omega
    · have HE := Lib.hid (idx_none (N := N) (n := n) (by have := HN.out; rwa [List.take_of_length_le (by have := Hl.out; omega)] at this))
      go_wp2
      go_ret2
      exact ⟨by rw [HE.out]; rfl, rfl⟩
end Go.Proofs.YtejccafolfeabaaGreatDoor

/-
  kerfref02.Print: the spelling of a set.
-/
namespace Go.Proofs.YtejccafolfeabaaGreatDoor
open Go.RowKit

theorem infoU8' : (Tryz.prog.info? 5).map (fun i => (i.zero, i.size, i.bytes)) = some (some (.int .u8 0), 1, 1) := by kernel_rfl
/-- Bytes that are the call's own. -/
def OwnB (w : World) (B : Nat) (v : Value) (l : List UInt8) : Prop := w.ownsRow B 5 1 v l.length (Lib.byteCells l)
theorem OwnB.below {w w' : World} {B : Nat} {v : Value} {l : List UInt8} (h : OwnB w B v l) (hb : Below w.heap.size w w') : OwnB w' B v l := by
  unfold OwnB at h ⊢
  refine ⟨h.1, ?_⟩
  rcases h.2 with h0 | ⟨g, cap, cur, hv, hg, hh, r⟩
  · exact .inl h0
  · exact .inr ⟨g, cap, cur, hv, hg, (hb.block g (Array.getElem?_eq_some_iff.1 hh).1).trans hh, r⟩
theorem OwnB.convert {w : World} {B : Nat} {v : Value} {l : List UInt8} (h : OwnB w B v l) : (convert 66 9 v).run Tryz.prog w = .ok (.string ⟨l.toArray⟩) w := by
  unfold OwnB at h
  rcases h.2 with ⟨rfl, h0⟩ | ⟨g, cap, cur, rfl, _, hg, _, _, _, ht⟩
  · have : l = [] := List.length_eq_zero_iff.1 h0
    subst this
    exact Lib.run_convert_nil_bytes w 66 9 5 0 Tryz.underlying66 Tryz.underlying5 Tryz.underlying9
  · exact run_convert_bytes_back w 66 9 5 ⟨g, 0, none⟩ cap l Tryz.underlying66 Tryz.underlying5 Tryz.underlying9 (Lib.bytes_of_row hg (by simpa using ht))
theorem OwnB.lt {w : World} {B : Nat} {v : Value} {l : List UInt8} (h : OwnB w B v l) : ∀ k, v.ownBlock = some k → B ≤ k := fun k hk => (World.ownsRow.lt h k hk).1
theorem OwnB.str {w : World} {B : Nat} {v : Value} {l : List UInt8} {s : ByteArray} {n : Nat} (h : w.ownsRow B 5 1 v (n + s.size) (Lib.byteCells l ++ Lib.strCells s)) (hn : n = l.length) : OwnB w B v (l ++ s.data.toList) := by
  unfold OwnB
  subst hn
  have e1 : Lib.byteCells (l ++ s.data.toList) = Lib.byteCells l ++ Lib.strCells s := by simp [Lib.byteCells, Lib.strCells]
  rw [e1, List.length_append, Array.length_toList]
  exact h
theorem OwnB.byte {w : World} {B : Nat} {v : Value} {l : List UInt8} {c : UInt8} {n : Nat} (h : w.ownsRow B 5 1 v (n + 1) (Lib.byteCells l ++ [.int .u8 c.toNat])) (hn : n = l.length) : OwnB w B v (l ++ [c]) := by
  unfold OwnB
  subst hn
  have e1 : Lib.byteCells (l ++ [c]) = Lib.byteCells l ++ [.int .u8 c.toNat] := by simp [Lib.byteCells]
  rw [e1, List.length_append]
  exact h
theorem OwnB.form {w : World} {B : Nat} {v : Value} {l : List UInt8} (h : OwnB w B v l) : ∃ A n c, v = .slice A n c := by
  unfold OwnB at h
  rcases h.2 with ⟨rfl, _⟩ | ⟨g, cap, cur, rfl, _⟩
  · exact ⟨_, _, _, rfl⟩
  · exact ⟨_, _, _, rfl⟩
theorem cell_grown {w w' : World} {o : Obj} {B b i : Nat} {v u : Value} {l : List UInt8} (hu : w.cell? ⟨b, i, none⟩ = some u) (ho : OwnB (w.alloc o) B v l) (hg : (w.alloc o).grownBy w' v.ownBlock) (hb : b < B) : w'.cell? ⟨b, i, none⟩ = some u := by
  have h1 : (w.alloc o).cell? ⟨b, i, none⟩ = some u := cell_keep hu ((Below.refl _ _).alloc (Nat.le_refl _) o)
  exact (World.cell?_of_block (hg.block b (cell_lt h1) (fun e => by have := ho.lt b e.symm; omega))).trans h1
theorem cell_grownS {w w' : World} {B b i : Nat} {v u : Value} {l : List UInt8} (hu : w.cell? ⟨b, i, none⟩ = some u) (ho : OwnB w B v l) (hg : w.grownBy w' v.ownBlock) (hb : b < B) : w'.cell? ⟨b, i, none⟩ = some u :=
  (World.cell?_of_block (hg.block b (cell_lt hu) (fun e => by have := ho.lt b e.symm; omega))).trans hu
theorem below_ownB {B : Nat} {a w w' : World} {v : Value} {l : List UInt8} (h : Below B a w) (ho : OwnB w B v l) (hg : w.grownBy w' v.ownBlock) (hB : B ≤ w.heap.size) : Below B a w' := h.grown hg hB fun k hk => ho.lt k hk
theorem cell_newB (w : World) {t : TypeId} (x : Value) : ∀ j u, [x][j]? = some u → (w.alloc (.cells #[x] t)).cell? ((⟨w.heap.size, 0, none⟩ : Addr).add j) = some u := fun j u h => by
  match j, h with
  | 0, h =>
    obtain rfl : x = u := by simpa using h
    exact (Blk.new w t #[x]).cell 0

set_option maxRecDepth 100000 in
set_option maxHeartbeats 2000000 in
theorem sPrint_any (A : Option Addr) (n c : Nat) (l : List (Int × Int)) (w : World) (hA : Rd w 2 A (l.map encR)) (hl : l.length = n) (hn : n ≤ 4000000) :
    Calls Tryz.prog 84 #[.slice A n c] w fun e w' => e = .returned (.string ⟨(printP l).toArray⟩) ∧ Below w.heap.size w w' := by
  obtain ⟨i0, hi0, hz0, hz1, hz2⟩ := info_parts infoU8'
  have Hl := Lib.hid hl
  have HNF := Lib.hid (normR_NF l)
  clear hl
  go_enter Tryz.func84, Tryz.ntmps84
  go_wp2_with fail
  refine (sNorm_any A n c l _ hA Hl.out hn).mono ?_
  rintro e w1 ⟨A1, n1, c1, rfl, ho1, hb1⟩
  have Hl1 := Lib.hid (show (normR l).length = n1 by simpa using ho1.len)
  have hn1 : n1 ≤ 557056 := by have := HNF.out.len; have := Hl1.out; omega
  have hA1 := ho1.rd (by decide)
  clear ho1
  go_wp2_with fail
  go_loopw [4, 5] (fun v4 v5 wr => ∃ (k : Nat) (A2 : Option Addr) (n2 c2 : Nat), v4 = .slice A2 n2 c2 ∧ v5 = .int .i64 k ∧ k ≤ n1 ∧ OwnB wr w1.heap.size (.slice A2 n2 c2) (printL ((normR l).take k)) ∧ Below w1.heap.size w1 wr) (fun _ v5 _ => n1 - (intOf v5).toNat)
  case atStart => exact ⟨0, none, 0, 0, rfl, rfl, by omega, ⟨rfl, .inl ⟨rfl, rfl⟩⟩, Below.refl _ _⟩
  case round =>
    obtain ⟨k, A2, n2, c2, rfl, rfl, hk, ho, hb⟩ := hrel
    have hplen := printL_len ((normR l).take k)
    have hl2 : (printL ((normR l).take k)).length ≤ 20000000 := by rw [List.length_take] at hplen; have := Hl1.out; omega
    have hsz := hb.size
    clear hplen
    by_cases hlt : k < n1
    · obtain ⟨bb, off, lo, hi, rfl, Hx, d0, d1⟩ := hA1.atR (k := k) (by have := Hl1.out; omega)
      have hbb : bb < w1.heap.size := cell_lt d0
      replace d0 := cell_keep d0 hb
      replace d1 := cell_keep d1 hb
      have hxb := HNF.out.2 _ (List.mem_of_getElem? Hx.out)
      have hxl := Nf_le HNF.out.1 _ (List.mem_of_getElem? Hx.out)
      simp only at hxb hxl
      obtain ⟨a, rfl⟩ : ∃ a : Nat, lo = (a : Int) := ⟨lo.toNat, by omega⟩
      obtain ⟨b, rfl⟩ : ∃ b : Nat, hi = (b : Int) := ⟨hi.toNat, by omega⟩
      have ha : a ≤ 1114111 := by omega
      have hb9 : b ≤ 1114111 := by omega
      obtain ⟨Xa, hXa⟩ : ∃ X : ByteArray, (⟨(hexS a).toArray⟩ : ByteArray) = X := ⟨_, rfl⟩
      obtain ⟨Xb, hXb⟩ : ∃ X : ByteArray, (⟨(hexS b).toArray⟩ : ByteArray) = X := ⟨_, rfl⟩
      have hza : Xa.size ≤ 6 := by rw [← hXa, ← size_data]; simp [hexS_len]; exact (hexK_bd a).2
      have hzb : Xb.size ≤ 6 := by rw [← hXb, ← size_data]; simp [hexS_len]; exact (hexK_bd b).2
      have Ha1 := Lib.hid (show ((⟨#[85, 43]⟩ : ByteArray) ++ Xa).data.toList = spellP (a : Int) by rw [← hXa]; simp [spellP])
      have Hb1 := Lib.hid (show ((⟨#[45, 85, 43]⟩ : ByteArray) ++ Xb).data.toList = 45 :: spellP (b : Int) by rw [← hXb]; simp [spellP])
      have hsa : ((⟨#[85, 43]⟩ : ByteArray) ++ Xa).size ≤ 8 := by rw [ByteArray.size_append]; show 2 + _ ≤ _; omega
      have hsb : ((⟨#[45, 85, 43]⟩ : ByteArray) ++ Xb).size ≤ 9 := by rw [ByteArray.size_append]; show 3 + _ ≤ _; omega
      have HXa := Lib.hid hXa
      have HXb := Lib.hid hXb
      have HT := Lib.hid (show printL ((normR l).take (k + 1)) = printL ((normR l).take k) ++ (if (normR l).take k = [] then [] else [32]) ++ itemT ((a : Int), (b : Int)) by
        rw [List.take_add_one, Hx.out, Option.toList_some, printL_snoc])
      clear hXa hXb
      by_cases he : b = a
      · subst he
        have Hit := Lib.hid (show itemT ((b : Int), (b : Int)) = spellP (b : Int) by unfold itemT; rw [if_pos rfl, List.append_nil])
        by_cases hk0 : k = 0
        · skip
          obtain rfl : k = 0 := hk0
          have HT2 : Hid (printL ((normR l).take (0 + 1)) = printL ((normR l).take 0) ++ [] ++ itemT ((b : Int), (b : Int))) := Lib.hid (by have h := HT.out; rw [if_pos List.take_zero] at h; exact h)
          simp only [Nat.zero_mul, Nat.add_zero] at d0 d1
          clear HT
          go_wp2_with fail
          have ho' : OwnB wr w1.heap.size (.slice A2 n2 c2) (printL ((normR l).take 0) ++ []) := by rw [List.append_nil]; exact ho
          clear ho
          have hl3 : (printL ((normR l).take 0) ++ []).length ≤ 20000001 := by rw [List.append_nil]; omega
          refine (sHex_any b wr (by omega)).mono ?_
          rintro e w9 ⟨rfl, rfl⟩
          rw [HXa.out]
          go_wp2_with (at_builtin; go_must (refine Lib.wpList_append_own_string _ rfl (.tmp 19) (.tmp 26) 66 9 rfl w1.heap.size 5 i0 Tryz.underlying66 Tryz.underlying9 hi0 hz0 hz1 hz2 _ _ _ rfl ho' (⟨#[85, 43]⟩ ++ Xa) rfl (by unfold maxLen; omega) (by omega) (by omega) ?_); intro v3 w3 ho3 hg3 _; have ho4 := OwnB.str ho3 rfl; have hb4 := below_ownB hb ho' hg3 (by omega); have f0 := cell_grownS d0 ho' hg3 hbb; have f1 := cell_grownS d1 ho' hg3 hbb; obtain ⟨A5, n5, c5, rfl⟩ := ho4.form; clear ho3 hg3)
          rw [Ha1.out] at ho4
          clear d0 d1 ho' hb
          go_quiet (fail)
          go_wp2
          have ho6 : OwnB _ w1.heap.size (.slice A5 n5 c5) (printL ((normR l).take (0 + 1))) := cast (by rw [HT2.out, Hit.out]) ho4
          go_roundw
          case rel => exact ⟨0 + 1, A5, n5, c5, rfl, by go_num, by omega, ho6, below_drewN hb4 _⟩
          case measure => simp [intOf]; omega
        · skip
          have htk : ¬ (normR l).take k = [] := by
            intro e
            have h9 : ((normR l).take k).length = 0 := by rw [e]; rfl
            rw [List.length_take] at h9; have := Hl1.out; omega
          have HT2 := Lib.hid HT.out
          rw [if_neg htk] at HT2
          have hk0' : 0 < k := by omega
          clear HT htk
          have hoA : OwnB (wr.alloc (.cells #[.int .u8 32] 5)) w1.heap.size (.slice A2 n2 c2) (printL ((normR l).take k)) := ho.below ((Below.refl _ _).alloc (Nat.le_refl _) _)
          go_wp2_with (at_builtin; go_must (refine wpList_append_own _ rfl (.tmp 16) (.tmp 17) 66 rfl w1.heap.size 5 i0 _ 1 1 Tryz.underlying66 hi0 hz0 hz1 hz2 rfl (by decide) _ _ _ rfl hoA ⟨wr.heap.size, 0, none⟩ 1 1 [.int .u8 (32 : UInt8).toNat] rfl rfl (cell_newB wr _) (by simp [Value.oneCell']) (by unfold maxLen; omega) (by omega) (by simp; omega) ?_); intro v2 w2 ho2 hg2 _; have ho' := OwnB.byte ho2 rfl; have hb' := below_ownB (hb.alloc (by omega) _) hoA hg2 (by simp; omega); have e0 := cell_grown d0 hoA hg2 hbb; have e1 := cell_grown d1 hoA hg2 hbb; obtain ⟨A4, n4, c4, rfl⟩ := ho'.form; clear ho2 hg2)
          have hl3 : (printL ((normR l).take k) ++ [32]).length ≤ 20000001 := by rw [List.length_append]; simp; omega
          have hs2 := hb'.size
          clear d0 d1 hoA ho hb
          refine (sHex_any b w2 (by omega)).mono ?_
          rintro e w9 ⟨rfl, rfl⟩
          rw [HXa.out]
          go_wp2_with (at_builtin; go_must (refine Lib.wpList_append_own_string _ rfl (.tmp 19) (.tmp 26) 66 9 rfl w1.heap.size 5 i0 Tryz.underlying66 Tryz.underlying9 hi0 hz0 hz1 hz2 _ _ _ rfl ho' (⟨#[85, 43]⟩ ++ Xa) rfl (by unfold maxLen; omega) (by omega) (by omega) ?_); intro v3 w3 ho3 hg3 _; have ho4 := OwnB.str ho3 rfl; have hb4 := below_ownB hb' ho' hg3 (by omega); have f0 := cell_grownS e0 ho' hg3 hbb; have f1 := cell_grownS e1 ho' hg3 hbb; obtain ⟨A5, n5, c5, rfl⟩ := ho4.form; clear ho3 hg3)
          rw [Ha1.out] at ho4
          clear e0 e1 ho' hb'
          go_quiet (fail)
          go_wp2
          have ho6 : OwnB _ w1.heap.size (.slice A5 n5 c5) (printL ((normR l).take (k + 1))) := cast (by rw [HT2.out, Hit.out]) ho4
          go_roundw
          case rel => exact ⟨k + 1, A5, n5, c5, rfl, by go_num, by omega, ho6, below_drewN hb4 _⟩
          case measure => simp [intOf]; omega
      · have Hit := Lib.hid (show itemT ((a : Int), (b : Int)) = spellP (a : Int) ++ 45 :: spellP (b : Int) by unfold itemT; rw [if_neg (fun e => he (by simp only at e; omega))])
        have hab : ((b : Int) != (a : Int)) = true := by rw [bne_iff_ne]; omega
        clear he
        by_cases hk0 : k = 0
        · skip
          obtain rfl : k = 0 := hk0
          have HT2 : Hid (printL ((normR l).take (0 + 1)) = printL ((normR l).take 0) ++ [] ++ itemT ((a : Int), (b : Int))) := Lib.hid (by have h := HT.out; rw [if_pos List.take_zero] at h; exact h)
          simp only [Nat.zero_mul, Nat.add_zero] at d0 d1
          clear HT
          go_wp2_with fail
          have ho' : OwnB wr w1.heap.size (.slice A2 n2 c2) (printL ((normR l).take 0) ++ []) := by rw [List.append_nil]; exact ho
          clear ho
          have hl3 : (printL ((normR l).take 0) ++ []).length ≤ 20000001 := by rw [List.append_nil]; omega
          refine (sHex_any a wr (by omega)).mono ?_
          rintro e w9 ⟨rfl, rfl⟩
          rw [HXa.out]
          go_wp2_with (at_builtin; go_must (refine Lib.wpList_append_own_string _ rfl (.tmp 19) (.tmp 26) 66 9 rfl w1.heap.size 5 i0 Tryz.underlying66 Tryz.underlying9 hi0 hz0 hz1 hz2 _ _ _ rfl ho' (⟨#[85, 43]⟩ ++ Xa) rfl (by unfold maxLen; omega) (by omega) (by omega) ?_); intro v3 w3 ho3 hg3 _; have ho4 := OwnB.str ho3 rfl; have hb4 := below_ownB hb ho' hg3 (by omega); have f0 := cell_grownS d0 ho' hg3 hbb; have f1 := cell_grownS d1 ho' hg3 hbb; obtain ⟨A5, n5, c5, rfl⟩ := ho4.form; clear ho3 hg3)
          rw [Ha1.out] at ho4
          clear d0 d1 ho' hb
          go_quiet (fail)
          have hl5 : (printL ((normR l).take 0) ++ [] ++ spellP (a : Int)).length ≤ 20000010 := by have := spellP_len (a : Int); rw [List.length_append]; omega
          have hs5 := hb4.size
          go_wp2_with fail
          refine (sHex_any b _ hb9).mono ?_
          rintro e w9 ⟨rfl, rfl⟩
          rw [HXb.out]
          go_wp2_with (at_builtin; go_must (refine Lib.wpList_append_own_string _ rfl (.tmp 39) (.tmp 46) 66 9 rfl w1.heap.size 5 i0 Tryz.underlying66 Tryz.underlying9 hi0 hz0 hz1 hz2 _ _ _ rfl ho4 (⟨#[45, 85, 43]⟩ ++ Xb) rfl (by unfold maxLen; omega) (by omega) hs5 ?_); intro v6 w6 ho6 hg6 _; have ho7 := OwnB.str ho6 rfl; have hb7 := below_ownB (below_drewN hb4 _) ho4 hg6 hs5; obtain ⟨A7, n7, c7, rfl⟩ := ho7.form; clear ho6 hg6)
          rw [Hb1.out] at ho7
          have ho8 : OwnB w6 w1.heap.size (.slice A7 n7 c7) (printL ((normR l).take (0 + 1))) := cast (by simp only [HT2.out, Hit.out, List.append_assoc]) ho7
          go_roundw
          case rel => exact ⟨0 + 1, A7, n7, c7, rfl, by go_num, by omega, ho8, hb7⟩
          case measure => simp [intOf]; omega
        · skip
          have htk : ¬ (normR l).take k = [] := by
            intro e
            have h9 : ((normR l).take k).length = 0 := by rw [e]; rfl
            rw [List.length_take] at h9; have := Hl1.out; omega
          have HT2 := Lib.hid HT.out
          rw [if_neg htk] at HT2
          have hk0' : 0 < k := by omega
          clear HT htk
          have hoA : OwnB (wr.alloc (.cells #[.int .u8 32] 5)) w1.heap.size (.slice A2 n2 c2) (printL ((normR l).take k)) := ho.below ((Below.refl _ _).alloc (Nat.le_refl _) _)
          go_wp2_with (at_builtin; go_must (refine wpList_append_own _ rfl (.tmp 16) (.tmp 17) 66 rfl w1.heap.size 5 i0 _ 1 1 Tryz.underlying66 hi0 hz0 hz1 hz2 rfl (by decide) _ _ _ rfl hoA ⟨wr.heap.size, 0, none⟩ 1 1 [.int .u8 (32 : UInt8).toNat] rfl rfl (cell_newB wr _) (by simp [Value.oneCell']) (by unfold maxLen; omega) (by omega) (by simp; omega) ?_); intro v2 w2 ho2 hg2 _; have ho' := OwnB.byte ho2 rfl; have hb' := below_ownB (hb.alloc (by omega) _) hoA hg2 (by simp; omega); have e0 := cell_grown d0 hoA hg2 hbb; have e1 := cell_grown d1 hoA hg2 hbb; obtain ⟨A4, n4, c4, rfl⟩ := ho'.form; clear ho2 hg2)
          have hl3 : (printL ((normR l).take k) ++ [32]).length ≤ 20000001 := by rw [List.length_append]; simp; omega
          have hs2 := hb'.size
          clear d0 d1 hoA ho hb
          refine (sHex_any a w2 (by omega)).mono ?_
          rintro e w9 ⟨rfl, rfl⟩
          rw [HXa.out]
          go_wp2_with (at_builtin; go_must (refine Lib.wpList_append_own_string _ rfl (.tmp 19) (.tmp 26) 66 9 rfl w1.heap.size 5 i0 Tryz.underlying66 Tryz.underlying9 hi0 hz0 hz1 hz2 _ _ _ rfl ho' (⟨#[85, 43]⟩ ++ Xa) rfl (by unfold maxLen; omega) (by omega) (by omega) ?_); intro v3 w3 ho3 hg3 _; have ho4 := OwnB.str ho3 rfl; have hb4 := below_ownB hb' ho' hg3 (by omega); have f0 := cell_grownS e0 ho' hg3 hbb; have f1 := cell_grownS e1 ho' hg3 hbb; obtain ⟨A5, n5, c5, rfl⟩ := ho4.form; clear ho3 hg3)
          rw [Ha1.out] at ho4
          clear e0 e1 ho' hb'
          go_quiet (fail)
          have hl5 : (printL ((normR l).take k) ++ [32] ++ spellP (a : Int)).length ≤ 20000010 := by have := spellP_len (a : Int); rw [List.length_append]; omega
          have hs5 := hb4.size
          go_wp2_with fail
          refine (sHex_any b _ hb9).mono ?_
          rintro e w9 ⟨rfl, rfl⟩
          rw [HXb.out]
          go_wp2_with (at_builtin; go_must (refine Lib.wpList_append_own_string _ rfl (.tmp 39) (.tmp 46) 66 9 rfl w1.heap.size 5 i0 Tryz.underlying66 Tryz.underlying9 hi0 hz0 hz1 hz2 _ _ _ rfl ho4 (⟨#[45, 85, 43]⟩ ++ Xb) rfl (by unfold maxLen; omega) (by omega) hs5 ?_); intro v6 w6 ho6 hg6 _; have ho7 := OwnB.str ho6 rfl; have hb7 := below_ownB (below_drewN hb4 _) ho4 hg6 hs5; obtain ⟨A7, n7, c7, rfl⟩ := ho7.form; clear ho6 hg6)
          rw [Hb1.out] at ho7
          have ho8 : OwnB w6 w1.heap.size (.slice A7 n7 c7) (printL ((normR l).take (k + 1))) := cast (by simp only [HT2.out, Hit.out, List.append_assoc]) ho7
          go_roundw
          case rel => exact ⟨k + 1, A7, n7, c7, rfl, by go_num, by omega, ho8, hb7⟩
          case measure => simp [intOf]; omega
    · obtain rfl : n1 = k := by omega
      have HE := Lib.hid (show (normR l).take n1 = normR l from List.take_of_length_le (by have := Hl1.out; omega))
      rw [HE.out] at ho
      have hcv := ho.convert
      go_wp2
      go_ret
      exact ⟨rfl, below_two hb1 hb⟩
end Go.Proofs.YtejccafolfeabaaGreatDoor

/-
  kerflaw04.PropsBack, walked.
-/
namespace Go.Proofs.YtejccafolfeabaaGreatDoor
open Go.RowKit Go.Maps

theorem setI_at {d : DbP} {i : Nat} {s : List (Int × Int)} (h : d.full[i]? = some s) : d.setI (i : Int) = s := by
  unfold DbP.setI
  rw [if_pos (by omega), List.getD_eq_getElem?_getD, show ((i : Int).toNat) = i by omega, h]; rfl
set_option maxRecDepth 100000 in
set_option maxHeartbeats 4000000 in
theorem qPropsBack_any (s : ByteArray) (w : World) (hE : Env w) (hs : s.size ≤ maxLen) : Calls Tryz.prog 6 #[.string s] w fun e w' => e = .returned (.bool true) ∧ Below w.heap.size w w' := by
  obtain ⟨t, rfl⟩ : ∃ t, s = bytesOf t := ⟨_, (bytesOf_data s).symm⟩
  rw [bytesOf_size] at hs
  have hsz : (bytesOf t).size = t.length := bytesOf_size t
  by_cases hbig : 12000 < t.length
  · go_enter Tryz.func6, Tryz.ntmps6
    go_wp2_with fail
    refine (qlive_any w hE).mono ?_
    rintro e w1 ⟨rfl, hb1⟩
    go_wp2
    go_ret
    exact ⟨rfl, hb1⟩
  · have HN := Lib.hid (wNew_any t w hE hs)
    cases hr : newP t with
    | error x =>
      rw [hr] at HN
      have hx := newP_code hr
      have hne : ((x.1 : Int) != 0) = true := by rw [bne_iff_ne]; omega
      clear hr
      go_enter Tryz.func6, Tryz.ntmps6
      go_wp2_with fail
      refine HN.out.mono ?_
      rintro e w1 ⟨he, hb1⟩
      have he : e = .returned (.tuple #[.pointer none, .int .i64 x.1, .int .i64 (x.2 : Int)]) := he
      subst he
      go_wp2_with (go_at_call 15; refine (qnum_any _ _).mono ?_; rintro e w' ⟨rfl, rfl⟩)
      refine (qlive_any w1 (hE.below hb1)).mono ?_
      rintro e w2 ⟨rfl, hb2⟩
      go_wp2
      go_ret
      exact ⟨rfl, below_two hb1 hb2⟩
    | ok d =>
      rw [hr] at HN
      obtain ⟨hok, hap⟩ := newP_ok hr
      have HO := Lib.hid (And.intro hok (And.intro hap (newP_named hr)))
      have HB := Lib.hid (newP_back hr (by omega))
      have hdl := newP_text hr (by omega)
      have HN2 := Lib.hid (fun W (h : Env W) => wNew_any d.text W h (by unfold maxLen; omega))
      rw [HB.out] at HN2
      obtain ⟨nn, Hnn⟩ : ∃ nn, Hid (d.names.length = nn) := ⟨_, rfl⟩
      have hn64 : nn ≤ 64 := by rw [← Hnn.out]; exact hok.few
      have HFl : Hid (d.full.length = nn) := Lib.hid (by rw [← Hnn.out]; exact full_len hok)
      clear hr hok hap hdl
      go_enter Tryz.func6, Tryz.ntmps6
      go_wp2_with fail
      refine HN.out.mono ?_
      rintro e w1 ⟨⟨p, rfl, hd⟩, hb⟩
      have hE1 := hE.below hb
      go_wp2_with (go_at_call 15; refine (qnum_any _ _).mono ?_; rintro e w' ⟨rfl, rfl⟩)
      refine (wText_any p d w1 hd HO.out.1 HO.out.2.1 HO.out.2.2 hE1.tabB).mono ?_
      rintro e w2 ⟨rfl, hb2⟩
      replace hb := below_two hb hb2
      replace hd := hd.below hb2
      replace hE1 := hE1.below hb2
      clear hb2
      go_wp2_with fail
      refine (HN2.out w2 hE1).mono ?_
      rintro e w3 ⟨⟨p2, rfl, hd2⟩, hb2⟩
      replace hb := below_two hb hb2
      replace hd := hd.below hb2
      replace hE1 := hE1.below hb2
      clear hb2
      go_wp2_with (go_at_call 15; refine (qnum_any _ _).mono ?_; rintro e w' ⟨rfl, rfl⟩)
      refine (wNames_any p2 d w3 hd2 HO.out.1).mono ?_
      rintro e w4 ⟨A4, n4, c4, rfl, ho4, hb2⟩
      obtain rfl : nn = n4 := by have := ho4.len; rw [List.length_map, Hnn.out] at this; exact this
      replace hb := below_two hb hb2
      replace hd := hd.below hb2
      replace hd2 := hd2.below hb2
      replace hE1 := hE1.below hb2
      clear hb2
      go_wp2_with fail
      refine (wNames_any p d w4 hd HO.out.1).mono ?_
      rintro e w5 ⟨A5, n5, c5, rfl, ho5, hb2⟩
      obtain rfl : nn = n5 := by have := ho5.len; rw [List.length_map, Hnn.out] at this; exact this
      replace hb := below_two hb hb2
      replace hd := hd.below hb2
      replace hd2 := hd2.below hb2
      replace hE1 := hE1.below hb2
      have hA4 := (ho4.below hb2).rd (by omega)
      have hA5 := ho5.rd (by omega)
      clear hb2
      go_wp2_with fail
      refine (qtexts_any A4 A5 nn c4 c5 d.names w5 hA4 hA5 Hnn.out (by omega)).mono ?_
      rintro e w6 ⟨rfl, k6, rfl⟩
      have hb2 : Below w5.heap.size w5 (w5.drewN k6) := below_refl_drewN w5 k6
      replace hb := below_two hb hb2
      replace hd := hd.below hb2
      replace hd2 := hd2.below hb2
      replace hE1 := hE1.below hb2
      clear hb2 hA4 hA5 ho4 ho5
      generalize w5.drewN k6 = w6 at hb hd hd2 hE1 ⊢
      go_wp2_with fail
      refine (wText_any p2 d w6 hd2 HO.out.1 HO.out.2.1 HO.out.2.2 hE1.tabB).mono ?_
      rintro e w7 ⟨rfl, hb2⟩
      replace hb := below_two hb hb2
      replace hd := hd.below hb2
      replace hd2 := hd2.below hb2
      replace hE1 := hE1.below hb2
      clear hb2
      go_wp2_with fail
      refine (wText_any p d w7 hd HO.out.1 HO.out.2.1 HO.out.2.2 hE1.tabB).mono ?_
      rintro e w8 ⟨rfl, hb2⟩
      replace hb := below_two hb hb2
      replace hd := hd.below hb2
      replace hd2 := hd2.below hb2
      replace hE1 := hE1.below hb2
      clear hb2
      go_wp2_with fail
      go_loopw [9] (fun v wr => ∃ i : Nat, v = .int .i64 i ∧ i ≤ nn ∧ Below w8.heap.size w8 wr) (fun v _ => nn - (intOf v).toNat)
      case atStart => exact ⟨0, rfl, by omega, Below.refl _ _⟩
      case round =>
        obtain ⟨i, rfl, hi, hbr⟩ := hrel
        have hdr := hd.below hbr
        have hdr2 := hd2.below hbr
        by_cases hlt : i < nn
        · obtain ⟨s, Hs⟩ : ∃ s, Hid (d.full[i]? = some s) := ⟨_, Lib.hid (List.getElem?_eq_getElem (show i < d.full.length by have := HFl.out; omega))⟩
          have HS := Lib.hid (setI_at Hs.out)
          go_wp2_with fail
          refine (wNames_any p d wr hdr HO.out.1).mono ?_
          rintro e w9 ⟨A9, n9, c9, rfl, ho9, hb9⟩
          obtain rfl : nn = n9 := by have := ho9.len; rw [List.length_map, Hnn.out] at this; exact this
          clear ho9
          go_wp2_with fail
          refine (wSet_any p2 d i w9 (hdr2.below hb9) HO.out.1 HO.out.2.1).mono ?_
          rw [HS.out]
          rintro e wa ⟨Aa, na, ca, rfl, hoa, hba⟩
          go_wp2_with fail
          refine (wSet_any p d i wa ((hdr.below hb9).below hba) HO.out.1 HO.out.2.1).mono ?_
          rw [HS.out]
          rintro e wb ⟨Ab, nb, cb, rfl, hob, hbb⟩
          have hna : s.length = na := by simpa using hoa.len
          have hnb : s.length = nb := by simpa using hob.len
          have hsm := full_small HO.out.1 HO.out.2.1 Hs.out
          go_wp2_with fail
          refine (sSame_any Aa Ab na ca nb cb s s wb ((hoa.below hbb).rd (by omega)) (hob.rd (by omega)) hna hnb (by unfold maxLen; omega) (by unfold maxLen; omega)).mono ?_
          rw [decide_eq_true rfl]
          rintro e wc ⟨rfl, kc, rfl⟩
          go_wp2
          go_roundw
          case rel => exact ⟨i + 1, by go_num, by omega, below_drewN (below_two hbr (below_two hb9 (below_two hba hbb))) kc⟩
          case measure => simp [intOf]; omega
        · go_wp2_with fail
          refine (wNames_any p d wr hdr HO.out.1).mono ?_
          rintro e w9 ⟨A9, n9, c9, rfl, ho9, hb9⟩
          obtain rfl : nn = n9 := by have := ho9.len; rw [List.length_map, Hnn.out] at this; exact this
          clear ho9
          go_wp2_with fail
          refine (qlive_any w9 ((hE1.below hbr).below hb9)).mono ?_
          rintro e wa ⟨rfl, hba⟩
          go_wp2
          go_ret
          exact ⟨rfl, below_two (below_two hb hbr) (below_two hb9 hba)⟩
end Go.Proofs.YtejccafolfeabaaGreatDoor

/-
  kerfref04: Get, Set, Text, walked.
-/
namespace Go.Proofs.YtejccafolfeabaaGreatDoor
open Go.RowKit Go.Maps

theorem getGo_hit {q : Int} {i : Nat} {s : List (Int × Int)} {S : List (List (Int × Int))} (h : hasB s q = true) : getGo q i (s :: S) = i := by unfold getGo; rw [if_pos h]
theorem getGo_miss {q : Int} {i : Nat} {s : List (Int × Int)} {S : List (List (Int × Int))} (h : hasB s q = false) : getGo q i (s :: S) = getGo q (i + 1) S := by conv => lhs; unfold getGo; rw [if_neg (by rw [h]; simp)]
theorem getGo_end {q : Int} {i : Nat} : getGo q i [] = 0 := rfl
set_option maxRecDepth 100000 in
set_option maxHeartbeats 4000000 in
theorem vGet_any (base p x : Nat) (d : DbP) (r : Int) (w : World) (h : RfB w base p x d.names d.full) (ho : d.Ok) (hap : Apart d.sets) :
    Calls Tryz.prog 46 #[.pointer (some ⟨p, 0, none⟩), .int .i32 r] w fun e w' => e = .returned (.int .i64 (d.get r : Nat)) ∧ w = w' := by
  obtain ⟨An, nn, cn, As, ns, cs, xs, hX⟩ := h.ex
  have hls := hX.lenS
  have hfl := full_len ho
  have hn0 : 0 < ns := by
    have h3 := ho.head
    cases hd : d.names with
    | nil => rw [hd] at h3; cases h3
    | cons a b => rw [hd] at hfl; simp at hfl; omega
  have hn64 : ns ≤ 64 := by have := ho.few; omega
  obtain ⟨g, rfl, _, _⟩ := hX.hs.form hn0
  have c1 := hX.blk.cell 1
  simp only [List.getElem?_toArray, List.getElem?_cons_zero, List.getElem?_cons_succ] at c1
  have HF := Lib.hid (fun i s (hi : d.full[i]? = some s) => full_small ho hap hi)
  have HG : Hid (d.get r = getGo (askR r) 1 d.full.tail) := rfl
  have Hls := Lib.hid (show d.full.length = ns from hls.2)
  have hcase : (r < 0 ∧ askR r = 65533) ∨ (¬ r < 0 ∧ 1114111 < r ∧ askR r = 65533) ∨ (¬ r < 0 ∧ ¬ 1114111 < r ∧ askR r = r) := by
    unfold askR; split <;> omega
  obtain ⟨q, hq⟩ : ∃ q, askR r = q := ⟨_, rfl⟩
  rw [hq] at HG hcase
  clear ho hap h hfl hq
  rcases hcase with ⟨h1, rfl⟩ | ⟨h1, h2, rfl⟩ | ⟨h1, h2, rfl⟩
  · go_enter Tryz.func46, Tryz.ntmps46
    go_wp2_with fail
    go_loopw [5] (fun v wr => ∃ k : Nat, v = .int .i64 (k + 1 : Nat) ∧ k + 1 ≤ ns ∧ wr = w ∧ Hid (d.get r = getGo 65533 (k + 1) (d.full.tail.drop k))) (fun v _ => ns - (intOf v).toNat)
    case atStart => exact ⟨0, rfl, by omega, rfl, by rw [List.drop_zero]; exact HG⟩
    case round =>
      obtain ⟨k, rfl, hk, rfl, HK⟩ := hrel
      by_cases hlt : k + 1 < ns
      · obtain ⟨s, Hs⟩ : ∃ s, Hid (d.full[k + 1]? = some s) := ⟨_, Lib.hid (List.getElem?_eq_getElem (show k + 1 < d.full.length by have := Hls.out; omega))⟩
        obtain ⟨⟨yA, yn, yc⟩, Hy⟩ : ∃ y, Hid (xs[k + 1]? = some y) := ⟨_, Lib.hid (List.getElem?_eq_getElem (show k + 1 < xs.length by omega))⟩
        have hoy : Own wr base 80 2 yA yn yc (s.map encR) := hX.hx.own (k + 1) (yA, yn, yc) s Hy.out Hs.out
        have hly : s.length = yn := by simpa using hoy.len
        have hsm := HF.out _ s Hs.out
        have hcell := hX.hs.cell' rfl Hy.out
        have HH := Lib.hid (sHas_any yA yn yc s 65533 wr (hoy.rd (by omega)) hly (by omega))
        have HD := Lib.hid (drop_at (show d.full.tail[k]? = some s by rw [List.getElem?_tail]; exact Hs.out))
        have hI : (k : Int) + 1 < ns := by omega
        rw [HD.out] at HK
        cases hv : hasB s 65533 with
        | true =>
          have HE := Lib.hid (HK.out.trans (getGo_hit hv))
          rw [hv] at HH
          clear hv hly
          go_wp2_with (go_at_call 21; refine HH.out.mono ?_; rintro e w2 ⟨rfl, rfl⟩)
          go_ret
          exact ⟨by rw [HE.out]; rfl, rfl⟩
        | false =>
          have HE := Lib.hid (HK.out.trans (getGo_miss hv))
          rw [hv] at HH
          clear hv hly
          go_wp2_with (go_at_call 21; refine HH.out.mono ?_; rintro e w2 ⟨rfl, rfl⟩)
          go_roundw
          case rel => exact ⟨k + 1, by go_num, by omega, by first | rfl | trivial, HE⟩
          case measure => simp [intOf]; omega
      · have HE : Hid (d.get r = 0) := Lib.hid (by rw [HK.out, List.drop_of_length_le (by rw [List.length_tail]; have := Hls.out; omega)]; rfl)
        obtain rfl : k + 1 = ns := by omega
        go_wp2
        go_ret
        exact ⟨by rw [HE.out]; rfl, rfl⟩
  · go_enter Tryz.func46, Tryz.ntmps46
    go_wp2_with fail
    go_loopw [5] (fun v wr => ∃ k : Nat, v = .int .i64 (k + 1 : Nat) ∧ k + 1 ≤ ns ∧ wr = w ∧ Hid (d.get r = getGo 65533 (k + 1) (d.full.tail.drop k))) (fun v _ => ns - (intOf v).toNat)
    case atStart => exact ⟨0, rfl, by omega, rfl, by rw [List.drop_zero]; exact HG⟩
    case round =>
      obtain ⟨k, rfl, hk, rfl, HK⟩ := hrel
      by_cases hlt : k + 1 < ns
      · obtain ⟨s, Hs⟩ : ∃ s, Hid (d.full[k + 1]? = some s) := ⟨_, Lib.hid (List.getElem?_eq_getElem (show k + 1 < d.full.length by have := Hls.out; omega))⟩
        obtain ⟨⟨yA, yn, yc⟩, Hy⟩ : ∃ y, Hid (xs[k + 1]? = some y) := ⟨_, Lib.hid (List.getElem?_eq_getElem (show k + 1 < xs.length by omega))⟩
        have hoy : Own wr base 80 2 yA yn yc (s.map encR) := hX.hx.own (k + 1) (yA, yn, yc) s Hy.out Hs.out
        have hly : s.length = yn := by simpa using hoy.len
        have hsm := HF.out _ s Hs.out
        have hcell := hX.hs.cell' rfl Hy.out
        have HH := Lib.hid (sHas_any yA yn yc s 65533 wr (hoy.rd (by omega)) hly (by omega))
        have HD := Lib.hid (drop_at (show d.full.tail[k]? = some s by rw [List.getElem?_tail]; exact Hs.out))
        have hI : (k : Int) + 1 < ns := by omega
        rw [HD.out] at HK
        cases hv : hasB s 65533 with
        | true =>
          have HE := Lib.hid (HK.out.trans (getGo_hit hv))
          rw [hv] at HH
          clear hv hly
          go_wp2_with (go_at_call 21; refine HH.out.mono ?_; rintro e w2 ⟨rfl, rfl⟩)
          go_ret
          exact ⟨by rw [HE.out]; rfl, rfl⟩
        | false =>
          have HE := Lib.hid (HK.out.trans (getGo_miss hv))
          rw [hv] at HH
          clear hv hly
          go_wp2_with (go_at_call 21; refine HH.out.mono ?_; rintro e w2 ⟨rfl, rfl⟩)
          go_roundw
          case rel => exact ⟨k + 1, by go_num, by omega, by first | rfl | trivial, HE⟩
          case measure => simp [intOf]; omega
      · have HE : Hid (d.get r = 0) := Lib.hid (by rw [HK.out, List.drop_of_length_le (by rw [List.length_tail]; have := Hls.out; omega)]; rfl)
        obtain rfl : k + 1 = ns := by omega
        go_wp2
        go_ret
        exact ⟨by rw [HE.out]; rfl, rfl⟩
  · go_enter Tryz.func46, Tryz.ntmps46
    go_wp2_with fail
    go_loopw [5] (fun v wr => ∃ k : Nat, v = .int .i64 (k + 1 : Nat) ∧ k + 1 ≤ ns ∧ wr = w ∧ Hid (d.get q = getGo q (k + 1) (d.full.tail.drop k))) (fun v _ => ns - (intOf v).toNat)
    case atStart => exact ⟨0, rfl, by omega, rfl, by rw [List.drop_zero]; exact HG⟩
    case round =>
      obtain ⟨k, rfl, hk, rfl, HK⟩ := hrel
      by_cases hlt : k + 1 < ns
      · obtain ⟨s, Hs⟩ : ∃ s, Hid (d.full[k + 1]? = some s) := ⟨_, Lib.hid (List.getElem?_eq_getElem (show k + 1 < d.full.length by have := Hls.out; omega))⟩
        obtain ⟨⟨yA, yn, yc⟩, Hy⟩ : ∃ y, Hid (xs[k + 1]? = some y) := ⟨_, Lib.hid (List.getElem?_eq_getElem (show k + 1 < xs.length by omega))⟩
        have hoy : Own wr base 80 2 yA yn yc (s.map encR) := hX.hx.own (k + 1) (yA, yn, yc) s Hy.out Hs.out
        have hly : s.length = yn := by simpa using hoy.len
        have hsm := HF.out _ s Hs.out
        have hcell := hX.hs.cell' rfl Hy.out
        have HH := Lib.hid (sHas_any yA yn yc s q wr (hoy.rd (by omega)) hly (by omega))
        have HD := Lib.hid (drop_at (show d.full.tail[k]? = some s by rw [List.getElem?_tail]; exact Hs.out))
        have hI : (k : Int) + 1 < ns := by omega
        rw [HD.out] at HK
        cases hv : hasB s q with
        | true =>
          have HE := Lib.hid (HK.out.trans (getGo_hit hv))
          rw [hv] at HH
          clear hv hly
          go_wp2_with (go_at_call 21; refine HH.out.mono ?_; rintro e w2 ⟨rfl, rfl⟩)
          go_ret
          exact ⟨by rw [HE.out]; rfl, rfl⟩
        | false =>
          have HE := Lib.hid (HK.out.trans (getGo_miss hv))
          rw [hv] at HH
          clear hv hly
          go_wp2_with (go_at_call 21; refine HH.out.mono ?_; rintro e w2 ⟨rfl, rfl⟩)
          go_roundw
          case rel => exact ⟨k + 1, by go_num, by omega, by first | rfl | trivial, HE⟩
          case measure => simp [intOf]; omega
      · have HE : Hid (d.get q = 0) := Lib.hid (by rw [HK.out, List.drop_of_length_le (by rw [List.length_tail]; have := Hls.out; omega)]; rfl)
        obtain rfl : k + 1 = ns := by omega
        go_wp2
        go_ret
        exact ⟨by rw [HE.out]; rfl, rfl⟩
set_option maxRecDepth 100000 in
set_option maxHeartbeats 2000000 in
theorem vSet_any (base p x : Nat) (d : DbP) (k : Int) (w : World) (h : RfB w base p x d.names d.full) (ho : d.Ok) (hap : Apart d.sets) :
    Calls Tryz.prog 45 #[.pointer (some ⟨p, 0, none⟩), .int .i64 k] w fun e w' => ∃ A n c, e = .returned (.slice A n c) ∧ Own w' w.heap.size 80 2 A n c ((d.setI k).map encR) ∧ Below w.heap.size w w' := by
  obtain ⟨An, nn, cn, As, ns, cs, xs, hX⟩ := h.ex
  obtain ⟨j0, hj0, hy0, hy1, hy2⟩ := info_parts infoR
  have hls := hX.lenS
  have Hlf := Lib.hid hls.2
  have HF := Lib.hid (fun i s (hi : d.full[i]? = some s) => full_small ho hap hi)
  have c1 := hX.blk.cell 1
  simp only [List.getElem?_toArray, List.getElem?_cons_zero, List.getElem?_cons_succ] at c1
  clear ho hap h
  rcases (by omega : k < 0 ∨ (0 ≤ k ∧ (ns : Int) ≤ k) ∨ (0 ≤ k ∧ k < ns)) with h1 | ⟨h1, h2⟩ | ⟨h1, h2⟩
  · have HE : Hid (d.setI k = []) := Lib.hid (if_neg (by omega))
    go_enter Tryz.func45, Tryz.ntmps45
    go_wp2
    go_ret
    exact ⟨none, 0, 0, rfl, by rw [HE.out]; exact Own.nil_ _ _ _ _, Below.refl _ _⟩
  · have HE : Hid (d.setI k = []) := Lib.hid (by unfold DbP.setI; rw [if_pos h1, List.getD_eq_getElem?_getD, List.getElem?_eq_none (by have := Hlf.out; omega)]; rfl)
    go_enter Tryz.func45, Tryz.ntmps45
    go_wp2
    go_ret
    exact ⟨none, 0, 0, rfl, by rw [HE.out]; exact Own.nil_ _ _ _ _, Below.refl _ _⟩
  · obtain ⟨i, rfl⟩ : ∃ i : Nat, k = i := ⟨k.toNat, by omega⟩
    have hi : i < ns := by omega
    obtain ⟨s, Hs⟩ : ∃ s, Hid (d.full[i]? = some s) := ⟨_, Lib.hid (List.getElem?_eq_getElem (by have := Hlf.out; omega))⟩
    obtain ⟨⟨yA, yn, yc⟩, Hx⟩ : ∃ x, Hid (xs[i]? = some x) := ⟨_, Lib.hid (List.getElem?_eq_getElem (by omega))⟩
    have hox : Own w base 80 2 yA yn yc (s.map encR) := hX.hx.own i (yA, yn, yc) s Hx.out Hs.out
    have HE := Lib.hid (setI_at Hs.out)
    have hsl : s.length = yn := by simpa using hox.len
    have hsm := HF.out i s Hs.out
    have Hsl := Lib.hid hsl
    obtain ⟨g, rfl, _, _⟩ := hX.hs.form (by omega)
    have hcell := cell_keep (hX.hs.cell' rfl Hx.out) ((Below.refl w.heap.size w).alloc (Nat.le_refl _) (.cells #[] 80))
    have c1' := cell_keep c1 ((Below.refl w.heap.size w).alloc (Nat.le_refl _) (.cells #[] 80))
    have hyn : yn ≤ 1114112 := by omega
    clear hsl hsm
    go_enter Tryz.func45, Tryz.ntmps45
    go_wp2_with (at_builtin; go_must (refine wpList_app rfl (.tmp 16) (.tmp 23) _ rfl w.heap.size 80 j0 _ 2 8 Tryz.underlying37 hj0 hy0 hy1 hy2 rfl (by omega) (some ⟨w.heap.size, 0, none⟩) 0 0 [] rfl (Own.lit w w.heap.size 80 2 (Nat.le_refl _)) yA yn yc (s.map encR) rfl (by rw [List.length_map]; exact Hsl.out) ((hox.rd (by omega)).alloc _) (encR_ok s) (by unfold maxLen; omega) (by omega) (by simp) ?_); intro A3 c3 w3 ho3 hg3 hA3)
    go_ret
    rw [Nat.zero_add] at ho3
    exact ⟨A3, yn, c3, rfl, by rw [HE.out]; simpa using ho3, below_app ((Below.refl _ _).alloc (Nat.le_refl _) _) hg3 (by simp) (fun a ha => by injection ha with ha; subst ha; exact Nat.le_refl _)⟩
end Go.Proofs.YtejccafolfeabaaGreatDoor

/-
  kerfref04: Of; kerflaw04: ints: walked.
-/
namespace Go.Proofs.YtejccafolfeabaaGreatDoor
open Go.RowKit Go.Maps

set_option maxRecDepth 100000 in
set_option maxHeartbeats 4000000 in
theorem vOf_any (base p x : Nat) (d : DbP) (s : ByteArray) (w : World) (h : RfB w base p x d.names d.full) (ho : d.Ok) (ha : Apart d.sets) (hs : s.size ≤ 1000000) :
    Calls Tryz.prog 26 #[.pointer (some ⟨p, 0, none⟩), .string s] w fun e w' => ∃ A n c, e = .returned (.slice A n c) ∧ Own w' w.heap.size 3 1 A n c ((ofC d s).map encN) ∧ Below w.heap.size w w' := by
  obtain ⟨i0, hi0, hz0, hz1, hz2⟩ := info_parts infoInt
  have HD := Lib.hid (And.intro h (And.intro ho ha))
  clear h ho ha
  go_enter Tryz.func26, Tryz.ntmps26
  go_wp2
  go_loopw [5] (fun v wr => ∃ (q f : Nat) (A1 : Option Addr) (n1 c1 : Nat) (o : List Nat), v = .slice A1 n1 c1 ∧ wr.heap[w.heap.size]? = some (.stringIter s q) ∧ Own wr (w.heap.size + 1) 3 1 A1 n1 c1 (o.map encN) ∧
      n1 ≤ q ∧ q ≤ s.size ∧ Hid (OfCAt d s f q o) ∧ Below w.heap.size w wr) (fun _ wr => s.size - wr.iterPos w.heap.size)
  case atStart => exact ⟨0, s.size, none, 0, 0, [], rfl, iter_new _ _ _, Own.nil_ _ _ _ _, by omega, by omega, ofCAt_first d s, below_iter (Below.refl _ _) (Nat.le_refl _) _ _⟩
  case round =>
    obtain ⟨q, f, A1, n1, c1, o, rfl, hit, ho, hn1, hps, HR, hb⟩ := hrel
    have hsz : w.heap.size < wr.heap.size := (Array.getElem?_eq_some_iff.1 hit).1
    have Hpos := Lib.hid (iterPos_of hit)
    by_cases hp : q < s.size
    · obtain ⟨⟨R, W⟩, HDc⟩ : ∃ d, Utf8.decode s q = d := ⟨_, rfl⟩
      have hd := dec_bd s q hp
      have hnx : ∀ ty, (Instr.next (.pointer (some ⟨w.heap.size, 0, none⟩)) true ty).run Tryz.prog wr = _ := fun ty => Lib.run_next_any_at wr w.heap.size s q ty hit hp
      have hit2 := Lib.iterAt_heap wr w.heap.size s q (q + (Utf8.decode s q).2) hit
      have hb2 := Lib.below_iterAt hb (k := w.heap.size) (Nat.le_refl _) s (q + (Utf8.decode s q).2)
      have ho2 := ho.iterAt (k := w.heap.size) (by omega) s (q + (Utf8.decode s q).2)
      have hsz2 : w.heap.size < (wr.iterAt w.heap.size s (q + (Utf8.decode s q).2)).heap.size := by rw [Lib.iterAt_size]; exact hsz
      rw [HDc] at hd hnx hit2 hb2 ho2 hsz2
      simp only at hd hnx hit2 hb2 ho2 hsz2
      obtain ⟨g, HA⟩ := ofCAt_add HR.out hp HDc (by omega)
      have HA := Lib.hid HA
      clear HR HDc
      generalize wr.iterAt w.heap.size s (q + W) = w2 at hnx hit2 hb2 ho2 hsz2
      have HG := Lib.hid (vGet_any base p x d R w2 (HD.out.1.below hb2) HD.out.2.1 HD.out.2.2)
      clear ho hb hit hsz
      go_wp2_with (first | (go_at_call 46; refine HG.out.mono ?_; rintro e w4 ⟨rfl, rfl⟩; have hit4 := hit2; have ho4 := ho2; have hbb := hb2; have hsz4 := hsz2) | (at_builtin; go_must (refine wpList_app rfl (.tmp 13) (.tmp 17) _ rfl (w.heap.size + 1) 3 i0 _ 1 8 Tryz.underlying46 hi0 hz0 hz1 hz2 rfl (by omega) A1 n1 c1 (o.map encN) rfl (ho4.alloc _) _ 1 1 [encN (d.get R)] rfl rfl (Rd.newAt (by simp) rfl) (encN_ok [d.get R]) (by unfold maxLen; omega) (by omega) (by simp; omega) ?_); intro A3 c3 w3 ho3 hg3 hA3; have hit3 := hg3.block w.heap.size (by simp; omega) (fun e => by cases A1 with | none => simp at e | some a => have := (ho4.lt a rfl).1; simp at e; omega); have hb3 := below_app (hbb.alloc (by omega) _) hg3 (by simp; omega) (fun a ha => by have := (ho4.lt a ha).1; omega); clear hg3))
      have hit5 : w3.heap[w.heap.size]? = some (.stringIter s (q + W)) := hit3.trans ((Below.heap_alloc _ _ _ hsz4).trans hit4)
      have Ho3 : Own w3 (w.heap.size + 1) 3 1 A3 (n1 + 1) c3 ((o ++ [d.get (R : Int)]).map encN) := by rw [List.map_append]; exact ho3
      clear hit3 ho3
      go_roundw
      case rel => exact ⟨q + W, g, A3, n1 + 1, c3, o ++ [d.get (R : Int)], rfl, hit5, Ho3, by omega, by omega, HA, hb3⟩
      case measure => rw [iterPos_of hit5, Hpos.out]; omega
    · have hnx : ∀ ty, (Instr.next (.pointer (some ⟨w.heap.size, 0, none⟩)) true ty).run Tryz.prog wr = _ := fun ty => Lib.run_next_end_at wr w.heap.size s q ty hit hp
      have HE := Lib.hid (ofCAt_end HR.out hp)
      go_wp2
      go_ret
      exact ⟨A1, n1, c1, rfl, by rw [← HE.out]; exact ho.more (by omega), hb⟩
theorem Rd.atN {w : World} {A : Option Addr} {l : List Nat} {k : Nat} {x : Nat} (h : Rd w 1 A (l.map encN)) (hk : l[k]? = some x) : ∃ b off, A = some ⟨b, off, none⟩ ∧ w.cell? ⟨b, off + k, none⟩ = some (.int .i64 (x : Nat)) := by
  obtain ⟨b, off, rfl, hc⟩ := h (by intro e; cases l with | nil => simp at hk | cons _ _ => simp at e)
  have h0 := hc k 0 (encN x) (.int .i64 (x : Nat)) (by simp [hk]) rfl
  exact ⟨b, off, rfl, by simpa using h0⟩
set_option maxRecDepth 100000 in
set_option maxHeartbeats 1000000 in
theorem qints_any (A B : Option Addr) (n c e : Nat) (l : List Nat) (w : World) (hA : Rd w 1 A (l.map encN)) (hB : Rd w 1 B (l.map encN)) (hl : l.length = n) (hn : n ≤ 4000000) :
    Calls Tryz.prog 28 #[.slice A n c, .slice B n e] w fun e w' => e = .returned (.bool true) ∧ ∃ k, w' = w.drewN k := by
  have Hl := Lib.hid hl
  clear hl
  go_enter Tryz.func28, Tryz.ntmps28
  go_wp2
  go_loopw [5] (fun v wr => ∃ i k : Nat, v = .int .i64 i ∧ i ≤ n ∧ wr = w.drewN k) (fun v _ => n - (intOf v).toNat)
  case atStart => exact ⟨0, 0, rfl, by omega, rfl⟩
  case round =>
    obtain ⟨i, k, rfl, hi, rfl⟩ := hrel
    by_cases hlt : i < n
    · obtain ⟨x, Hx⟩ : ∃ x, Hid (l[i]? = some x) := ⟨_, Lib.hid (List.getElem?_eq_getElem (show i < l.length by have := Hl.out; omega))⟩
      obtain ⟨b, off, rfl, h1⟩ := hA.atN Hx.out
      obtain ⟨b', off', rfl, h2⟩ := hB.atN Hx.out
      go_wp2_with fail
      go_quiet (fail)
      go_wp2
      go_roundw
      case rel => exact ⟨i + 1, _, by go_num, by omega, by first | rfl | exact World.drewN_drewN⟩
      case measure => simp [intOf]; omega
    · go_wp2
      go_ret
      exact ⟨rfl, k, rfl⟩

end Go.Proofs.YtejccafolfeabaaGreatDoor

/-
  kerfref04: Name, walked.
-/
namespace Go.Proofs.YtejccafolfeabaaGreatDoor
open Go.RowKit Go.Maps

set_option maxRecDepth 100000 in
set_option maxHeartbeats 4000000 in
theorem vName_any (l : List UInt8) (w : World) (hs : l.length ≤ 9223372036854775807) : Calls Tryz.prog 11 #[.string (bytesOf l)] w fun e w' => e = .returned (.bool (nameL l)) ∧ Below w.heap.size w w' := by
  have hsz : (bytesOf l).size = l.length := bytesOf_size l
  go_enter Tryz.func11, Tryz.ntmps11
  go_wp2
  have hbw : Below w.heap.size w w := Below.refl _ _
  go_loop [3] (fun i => ∃ k : Nat, i = .int .i64 k ∧ k ≤ l.length ∧ Hid (nameU (l.take k) = true)) (fun i => l.length - (intOf i).toNat)
  case atStart => exact ⟨0, rfl, by omega, rfl⟩
  case round =>
    obtain ⟨k, rfl, hk, Hm⟩ := hrel
    by_cases hlt : k < l.length
    · have hkl : k < (bytesOf l).size := by rw [hsz]; exact hlt
      have hc := index_at (bytesOf l) k k rfl hkl
      obtain ⟨c, hce⟩ : ∃ c, (bytesOf l)[k]'hkl = c := ⟨_, rfl⟩
      have Hc : Hid (l[k]? = some c) := Lib.hid (by have := get_list hkl; rw [bytesOf_list, hce] at this; exact this)
      have hcc : (((bytesOf l)[k]'hkl).toNat : Int) = (c.toNat : Int) := by rw [hce]
      rw [hce] at hc
      clear hce
      have HN := Lib.hid (nameU_next Hc.out Hm.out)
      have HE : Hid (nameU (l.take (k + 1)) = false → nameL l = false) := Lib.hid (fun h => by rw [nameL_eq, nameU_take h, Bool.false_and])
      have hc0 : 0 ≤ (c.toNat : Int) := by omega
      have hc255 : (c.toNat : Int) ≤ 255 := by have := c.toNat_lt; omega
      have HLT : Hid ((65 ≤ (c.toNat : Int) ∧ (c.toNat : Int) ≤ 90) ∨ (97 ≤ (c.toNat : Int) ∧ (c.toNat : Int) ≤ 122) → letB c = true ∧ partB c = true) := Lib.hid (fun h => ⟨letB_t (by omega), partB_t (by omega)⟩)
      have HLF : Hid (¬ ((65 ≤ (c.toNat : Int) ∧ (c.toNat : Int) ≤ 90) ∨ (97 ≤ (c.toNat : Int) ∧ (c.toNat : Int) ≤ 122)) → letB c = false) := Lib.hid (fun h => letB_f (by omega))
      have HPT : Hid ((48 ≤ (c.toNat : Int) ∧ (c.toNat : Int) ≤ 57) ∨ (c.toNat : Int) = 95 → partB c = true) := Lib.hid (fun h => partB_t (by omega))
      have HPF : Hid (¬ ((65 ≤ (c.toNat : Int) ∧ (c.toNat : Int) ≤ 90) ∨ (97 ≤ (c.toNat : Int) ∧ (c.toNat : Int) ≤ 122) ∨ (48 ≤ (c.toNat : Int) ∧ (c.toNat : Int) ≤ 57) ∨ (c.toNat : Int) = 95) → partB c = false) := Lib.hid (fun h => partB_f (by omega))
      generalize (c.toNat : Int) = z at hc hcc hc0 hc255 HLT HLF HPT HPF
      rcases Nat.eq_zero_or_pos k with rfl | h0
      · rcases (by omega : (65 ≤ z ∧ z ≤ 90) ∨ (97 ≤ z ∧ z ≤ 122) ∨ (z < 65 ∨ (90 < z ∧ z < 97) ∨ 122 < z)) with ⟨hq, hq'⟩ | ⟨hq, hq'⟩ | hq
        iterate 2
          · have HV : Hid (nameU (l.take (0 + 1)) = true) := Lib.hid (by rw [HN.out, if_pos rfl]; exact (HLT.out (by omega)).1)
            clear HLT HLF HPT HPF HN HE
            try first | (have d65 : decide (65 ≤ z) = true := decide_eq_true (by omega)) | (have d65 : decide (65 ≤ z) = false := decide_eq_false (by omega))
            try first | (have d90 : decide (z ≤ 90) = true := decide_eq_true (by omega)) | (have d90 : decide (z ≤ 90) = false := decide_eq_false (by omega))
            try first | (have d97 : decide (97 ≤ z) = true := decide_eq_true (by omega)) | (have d97 : decide (97 ≤ z) = false := decide_eq_false (by omega))
            try first | (have d122 : decide (z ≤ 122) = true := decide_eq_true (by omega)) | (have d122 : decide (z ≤ 122) = false := decide_eq_false (by omega))
            try first | (have d48 : decide (z < 48) = true := decide_eq_true (by omega)) | (have d48 : decide (z < 48) = false := decide_eq_false (by omega))
            try first | (have d57 : decide (57 < z) = true := decide_eq_true (by omega)) | (have d57 : decide (57 < z) = false := decide_eq_false (by omega))
            try first | (have d95 : (z != 95) = true := bne_iff_ne.2 (by omega)) | (have d95 : (z != 95) = false := by rw [bne_eq_false_iff_eq]; omega)
            go_wp2
            refine ⟨⟨0 + 1, by go_num, by omega, HV⟩, ?_⟩
            simp [intOf]; omega
        · have HV : Hid (nameL l = false) := Lib.hid (HE.out (by rw [HN.out, if_pos rfl]; exact HLF.out (by omega)))
          clear HLT HLF HPT HPF HN HE
          rcases hq with hq | ⟨hq, hq'⟩ | hq
          all_goals
            try first | (have d65 : decide (65 ≤ z) = true := decide_eq_true (by omega)) | (have d65 : decide (65 ≤ z) = false := decide_eq_false (by omega))
            try first | (have d90 : decide (z ≤ 90) = true := decide_eq_true (by omega)) | (have d90 : decide (z ≤ 90) = false := decide_eq_false (by omega))
            try first | (have d97 : decide (97 ≤ z) = true := decide_eq_true (by omega)) | (have d97 : decide (97 ≤ z) = false := decide_eq_false (by omega))
            try first | (have d122 : decide (z ≤ 122) = true := decide_eq_true (by omega)) | (have d122 : decide (z ≤ 122) = false := decide_eq_false (by omega))
            try first | (have d48 : decide (z < 48) = true := decide_eq_true (by omega)) | (have d48 : decide (z < 48) = false := decide_eq_false (by omega))
            try first | (have d57 : decide (57 < z) = true := decide_eq_true (by omega)) | (have d57 : decide (57 < z) = false := decide_eq_false (by omega))
            try first | (have d95 : (z != 95) = true := bne_iff_ne.2 (by omega)) | (have d95 : (z != 95) = false := by rw [bne_eq_false_iff_eq]; omega)
            go_wp2
            go_ret
            exact ⟨by rw [HV.out]; rfl, hbw⟩
      · have hk0 : ((k : Int) == 0) = false := beq_eq_false_iff_ne.2 (by omega)
        rcases (by omega : (65 ≤ z ∧ z ≤ 90) ∨ (97 ≤ z ∧ z ≤ 122) ∨ (48 ≤ z ∧ z ≤ 57) ∨ z = 95 ∨ (z < 48 ∨ (57 < z ∧ z < 65) ∨ (90 < z ∧ z < 95) ∨ z = 96 ∨ 122 < z)) with ⟨hq, hq'⟩ | ⟨hq, hq'⟩ | ⟨hq, hq'⟩ | hq | hq
        iterate 4
          · have HV : Hid (nameU (l.take (k + 1)) = true) := Lib.hid (by rw [HN.out, if_neg (by omega)]; first | exact (HLT.out (by omega)).2 | exact HPT.out (by omega))
            clear HLT HLF HPT HPF HN HE
            try first | (have d65 : decide (65 ≤ z) = true := decide_eq_true (by omega)) | (have d65 : decide (65 ≤ z) = false := decide_eq_false (by omega))
            try first | (have d90 : decide (z ≤ 90) = true := decide_eq_true (by omega)) | (have d90 : decide (z ≤ 90) = false := decide_eq_false (by omega))
            try first | (have d97 : decide (97 ≤ z) = true := decide_eq_true (by omega)) | (have d97 : decide (97 ≤ z) = false := decide_eq_false (by omega))
            try first | (have d122 : decide (z ≤ 122) = true := decide_eq_true (by omega)) | (have d122 : decide (z ≤ 122) = false := decide_eq_false (by omega))
            try first | (have d48 : decide (z < 48) = true := decide_eq_true (by omega)) | (have d48 : decide (z < 48) = false := decide_eq_false (by omega))
            try first | (have d57 : decide (57 < z) = true := decide_eq_true (by omega)) | (have d57 : decide (57 < z) = false := decide_eq_false (by omega))
            try first | (have d95 : (z != 95) = true := bne_iff_ne.2 (by omega)) | (have d95 : (z != 95) = false := by rw [bne_eq_false_iff_eq]; omega)
            go_wp2
            refine ⟨⟨k + 1, by go_num, by omega, HV⟩, ?_⟩
            simp [intOf]; omega
        · have HV : Hid (nameL l = false) := Lib.hid (HE.out (by rw [HN.out, if_neg (by omega)]; exact HPF.out (by omega)))
          clear HLT HLF HPT HPF HN HE
          rcases hq with hq | ⟨hq, hq'⟩ | ⟨hq, hq'⟩ | hq | hq
          all_goals
            try first | (have d65 : decide (65 ≤ z) = true := decide_eq_true (by omega)) | (have d65 : decide (65 ≤ z) = false := decide_eq_false (by omega))
            try first | (have d90 : decide (z ≤ 90) = true := decide_eq_true (by omega)) | (have d90 : decide (z ≤ 90) = false := decide_eq_false (by omega))
            try first | (have d97 : decide (97 ≤ z) = true := decide_eq_true (by omega)) | (have d97 : decide (97 ≤ z) = false := decide_eq_false (by omega))
            try first | (have d122 : decide (z ≤ 122) = true := decide_eq_true (by omega)) | (have d122 : decide (z ≤ 122) = false := decide_eq_false (by omega))
            try first | (have d48 : decide (z < 48) = true := decide_eq_true (by omega)) | (have d48 : decide (z < 48) = false := decide_eq_false (by omega))
            try first | (have d57 : decide (57 < z) = true := decide_eq_true (by omega)) | (have d57 : decide (57 < z) = false := decide_eq_false (by omega))
            try first | (have d95 : (z != 95) = true := bne_iff_ne.2 (by omega)) | (have d95 : (z != 95) = false := by rw [bne_eq_false_iff_eq]; omega)
            go_wp2
            go_ret
            exact ⟨by rw [HV.out]; rfl, hbw⟩
    · have HE : Hid (nameL l = decide (1 ≤ l.length ∧ l.length ≤ 32)) := Lib.hid (by rw [nameL_eq, show nameU l = true by have := Hm.out; rwa [List.take_of_length_le (by omega)] at this, Bool.true_and])
      rcases (by omega : l.length = 0 ∨ (1 ≤ l.length ∧ l.length ≤ 32) ∨ 32 < l.length) with h | ⟨h, h'⟩ | h
      all_goals
        go_wp2
        go_ret
        exact ⟨ret_bool (by rw [HE.out]; first | exact (decide_eq_false (by omega)).symm | exact (decide_eq_true (by omega)).symm | (rw [decide_eq_decide]; omega)), hbw⟩

end Go.Proofs.YtejccafolfeabaaGreatDoor

/-
  kerfref04: cut, Class, meet, walked.
-/
namespace Go.Proofs.YtejccafolfeabaaGreatDoor
open Go.RowKit Go.Maps

theorem ret_pair {a b c d : Value} (h1 : a = c) (h2 : b = d) : Ending.returned (.tuple #[a, b]) = .returned (.tuple #[c, d]) := by rw [h1, h2]
set_option maxRecDepth 100000 in
set_option maxHeartbeats 2000000 in
theorem vcut_any (L : List UInt8) (w : World) (hL : L.length ≤ 1000000) :
    Calls Tryz.prog 77 #[.string (bytesOf L)] w fun e w' => e = .returned (.tuple #[.string (bytesOf (L.take (hashP L))), .int .i64 (fv (findP 59 (L.take (hashP L))))]) ∧ Below w.heap.size w w' := by
  have HIS := Lib.hid (cutD_is L)
  have hsz : (bytesOf L).size = L.length := bytesOf_size L
  go_enter Tryz.func77, Tryz.ntmps77
  go_wp2
  go_loopw [4, 5] (fun a v wr => ∃ (semi : Option Nat) (i : Nat), a = .int .i64 (fv semi) ∧ v = .int .i64 i ∧ i ≤ L.length ∧ Hid (CutAt L i semi) ∧ Below w.heap.size w wr) (fun _ v _ => L.length - (intOf v).toNat)
  case atStart => exact ⟨none, 0, rfl, rfl, by omega, cutAt_first L, Below.refl _ _⟩
  case round =>
    obtain ⟨semi, i, rfl, rfl, hi, HC, hb⟩ := hrel
    by_cases hlt : i < L.length
    · have HQ := Lib.hid (sQuoted_any (bytesOf L) i wr (by omega) (by omega))
      have hqq := quoted_qt (bytesOf L) i (by omega)
      rw [bytesOf_list] at hqq
      have hp : i < (bytesOf L).size := by omega
      have hix := index_at (bytesOf L) i i rfl hp
      obtain ⟨x, hx⟩ : ∃ x, (bytesOf L)[i]'hp = x := ⟨_, rfl⟩
      have Hx : Hid (L[i]? = some x) := Lib.hid (by have := get_list hp; rw [bytesOf_list, hx] at this; exact this)
      have hgi : (((bytesOf L)[i]'hp).toNat : Int) = (x.toNat : Int) := by rw [hx]
      rw [hx] at hix
      clear hx
      cases hq : qtL (L.drop i) with
      | some k =>
        rw [hq] at hqq
        obtain ⟨q1, q2⟩ := hqq
        have HC' := Lib.hid (cutAt_qt HC.out hq)
        have hik : i + k ≤ L.length := HC'.out.1
        generalize quotedP (bytesOf L) i = Q at HQ q1 q2
        obtain ⟨r, wd, ok⟩ := Q
        simp only at q1 q2
        subst q1
        have hk3 := (qtL_some hq).1
        clear hq
        go_wp2_with (go_at_call 112; refine HQ.out.mono ?_; rintro e w2 ⟨rfl, hb2⟩)
        go_roundw
        case rel => exact ⟨semi, i + k, rfl, by go_num, hik, HC', below_step hb hb2 hb.size⟩
        case measure => simp [intOf]; omega
      | none =>
        rw [hq] at hqq
        generalize quotedP (bytesOf L) i = Q at HQ hqq
        obtain ⟨r, wd, ok⟩ := Q
        simp only at hqq
        subst hqq
        have h35 : x = 35 ↔ (x.toNat : Int) = 35 := by have h1 : x = 35 ↔ x.toNat = 35 := u8_eq (n := 35) (by omega); rw [h1]; omega
        have h59 : x = 59 ↔ (x.toNat : Int) = 59 := by have h1 : x = 59 ↔ x.toNat = 59 := u8_eq (n := 59) (by omega); rw [h1]; omega
        have HH := Lib.hid (fun h => cutAt_hash HC.out Hx.out hq (h35.2 h))
        have HS := Lib.hid (fun h hs => cutAt_semi HC.out Hx.out hq (h59.2 h) hs)
        have HGo := Lib.hid (fun (h : ¬ (x.toNat : Int) = 35) (hs : ¬ ((x.toNat : Int) = 59 ∧ semi = none)) => cutAt_go HC.out Hx.out hq (fun k => h (h35.1 k)) (fun k => hs ⟨h59.1 k.1, k.2⟩))
        generalize (x.toNat : Int) = z at hix hgi HH HS HGo
        clear h35 h59 hq
        rcases (by omega : z = 35 ∨ z = 59 ∨ (z ≠ 35 ∧ z ≠ 59)) with hz | hz | ⟨hz, hz'⟩
        · have HE := HH.out hz
          rw [HIS.out] at HE
          injection HE with HE1 HE2
          have HE1 := Lib.hid HE1
          have HE2 := Lib.hid HE2
          have hzz : (z == 35) = true := by rw [hz]; rfl
          clear hz HH HS HGo
          go_wp2_with (go_at_call 112; refine HQ.out.mono ?_; rintro e w2 ⟨rfl, hb2⟩)
          go_ret2
          have h1 := ext_bytes0 L i
          rw [← HE1.out] at h1
          exact ⟨ret_pair (congrArg Value.string (by first | exact h1 | (rw [HE1.out] at h1 ⊢; exact h1) | rfl)) (congrArg (Value.int .i64) (by rw [HE2.out])), below_step hb hb2 hb.size⟩
        · have hzz : (z == 35) = false := by rw [hz]; rfl
          have hzy : (z == 59) = true := by rw [hz]; rfl
          cases semi with
          | none =>
            have HC' := Lib.hid (HS.out hz rfl)
            have hfn : decide (fv none < 0) = true := rfl
            clear hz HH HS HGo
            go_wp2_with (go_at_call 112; refine HQ.out.mono ?_; rintro e w2 ⟨rfl, hb2⟩)
            go_roundw
            case rel => exact ⟨some i, i + 1, rfl, by go_num, by omega, HC', below_step hb hb2 hb.size⟩
            case measure => simp [intOf]; omega
          | some k =>
            have HC' := Lib.hid (HGo.out (by omega) (fun h => by cases h.2))
            have hfn : decide (fv (some k) < 0) = false := decide_eq_false (by simp only [fv]; omega)
            clear hz HH HS HGo
            go_wp2_with (go_at_call 112; refine HQ.out.mono ?_; rintro e w2 ⟨rfl, hb2⟩)
            go_roundw
            case rel => exact ⟨some k, i + 1, rfl, by go_num, by omega, HC', below_step hb hb2 hb.size⟩
            case measure => simp [intOf]; omega
        · have hzz : (z == 35) = false := beq_eq_false_iff_ne.2 hz
          have hzy : (z == 59) = false := beq_eq_false_iff_ne.2 hz'
          have HC' := Lib.hid (HGo.out hz (fun h => hz' h.1))
          clear hz hz' HH HS HGo
          go_wp2_with (go_at_call 112; refine HQ.out.mono ?_; rintro e w2 ⟨rfl, hb2⟩)
          go_roundw
          case rel => exact ⟨semi, i + 1, rfl, by go_num, by omega, HC', below_step hb hb2 hb.size⟩
          case measure => simp [intOf]; omega
    · have HE := cutAt_end HC.out hlt
      rw [HIS.out] at HE
      injection HE with HE1 HE2
      have HE1 := Lib.hid HE1
      have HE2 := Lib.hid HE2
      go_wp2
      go_ret2
      exact ⟨ret_pair (congrArg Value.string (by rw [HE1.out, List.take_length]; try rfl)) (by rw [HE2.out]; try rfl), hb⟩
end Go.Proofs.YtejccafolfeabaaGreatDoor

/-
  kerfref04: meet, walked.
-/
namespace Go.Proofs.YtejccafolfeabaaGreatDoor
open Go.RowKit Go.Maps

def hitR (x y : Int × Int) : Bool := decide (x.1 ≤ y.2) && decide (y.1 ≤ x.2)
theorem meetB_any (a b : List (Int × Int)) : meetB a b = a.any fun x => b.any fun y => hitR x y := rfl
theorem any_next {α : Type} {l : List α} {i : Nat} {x : α} {f : α → Bool} (h : (l.take i).any f = false) (hx : l[i]? = some x) (hf : f x = false) : (l.take (i + 1)).any f = false := by
  rw [List.take_add_one, hx]; simp [List.any_append, h, hf]
theorem any_hit {α : Type} {l : List α} {i : Nat} {x : α} {f : α → Bool} (hx : l[i]? = some x) (hf : f x = true) : l.any f = true := List.any_eq_true.2 ⟨x, List.mem_of_getElem? hx, hf⟩
theorem any_all {α : Type} {l : List α} {i : Nat} {f : α → Bool} (h : (l.take i).any f = false) (hi : ¬ i < l.length) : l.any f = false := by rwa [List.take_of_length_le (by omega)] at h
set_option maxRecDepth 100000 in
set_option maxHeartbeats 2000000 in
theorem vmeet_any (A B : Option Addr) (n c m e : Nat) (l q : List (Int × Int)) (w : World) (hA : Rd w 2 A (l.map encR)) (hB : Rd w 2 B (q.map encR)) (hl : l.length = n) (hq : q.length = m) (hn : n ≤ 4000000) (hm : m ≤ 4000000) :
    Calls Tryz.prog 81 #[.slice A n c, .slice B m e] w fun e w' => e = .returned (.bool (meetB l q)) ∧ ∃ k, w' = w.drewN k := by
  have Hl := Lib.hid hl
  have Hq := Lib.hid hq
  have HMB := Lib.hid (meetB_any l q)
  go_enter Tryz.func81, Tryz.ntmps81
  go_wp2
  go_loopw [5] (fun v wr => ∃ i k : Nat, v = .int .i64 i ∧ i ≤ n ∧ Hid ((l.take i).any (fun x => q.any fun y => hitR x y) = false) ∧ wr = w.drewN k) (fun v _ => n - (intOf v).toNat)
  case atStart => exact ⟨0, 0, rfl, by omega, by simp [Hid], rfl⟩
  case round =>
    obtain ⟨i, k, rfl, hi, HI, rfl⟩ := hrel
    by_cases hlt : i < n
    · obtain ⟨bA, oA, x1, x2, rfl, Hx, hx1, hx2⟩ := hA.atR (k := i) (by have := Hl.out; omega)
      have hdi : decide (i < n) = true := decide_eq_true hlt
      go_wp2_with fail
      go_loopw [6] (fun v wr => ∃ j k2 : Nat, v = .int .i64 j ∧ j ≤ m ∧ Hid ((q.take j).any (fun y => hitR (x1, x2) y) = false) ∧ wr = w.drewN k2) (fun v _ => m - (intOf v).toNat)
      case atStart => exact ⟨0, k, rfl, by omega, by simp [Hid], rfl⟩
      case round =>
        obtain ⟨j, k2, rfl, hj, HJ, rfl⟩ := hrel
        by_cases hltj : j < m
        · obtain ⟨bB, oB, y1, y2, rfl, Hy, hy1, hy2⟩ := hB.atR (k := j) (by have := Hq.out; omega)
          rcases (by omega : ¬ x1 ≤ y2 ∨ (x1 ≤ y2 ∧ ¬ y1 ≤ x2) ∨ (x1 ≤ y2 ∧ y1 ≤ x2)) with h1 | ⟨h1, h2⟩ | ⟨h1, h2⟩
          · have HJ' := Lib.hid (any_next HJ.out Hy.out (show hitR (x1, x2) (y1, y2) = false by simp [hitR, h1]))
            have hd1 : decide (x1 ≤ y2) = false := decide_eq_false h1
            go_wp2_with fail
            go_quiet (fail)
            go_wp2
            go_roundw
            case rel => exact ⟨j + 1, _, by go_num, by omega, HJ', by first | rfl | exact World.drewN_drewN _ _ _⟩
            case measure => simp [intOf]; omega
          · have HJ' := Lib.hid (any_next HJ.out Hy.out (show hitR (x1, x2) (y1, y2) = false by simp [hitR, h2]))
            have hd1 : decide (x1 ≤ y2) = true := decide_eq_true h1
            have hd2 : decide (y1 ≤ x2) = false := decide_eq_false h2
            go_wp2_with fail
            go_quiet (fail)
            go_wp2
            go_roundw
            case rel => exact ⟨j + 1, _, by go_num, by omega, HJ', by first | rfl | exact World.drewN_drewN _ _ _⟩
            case measure => simp [intOf]; omega
          · have HE : Hid (meetB l q = true) := Lib.hid (by rw [HMB.out]; exact any_hit Hx.out (any_hit Hy.out (show hitR (x1, x2) (y1, y2) = true by simp [hitR, h1, h2])))
            have hd1 : decide (x1 ≤ y2) = true := decide_eq_true h1
            have hd2 : decide (y1 ≤ x2) = true := decide_eq_true h2
            go_wp2_with fail
            go_quiet (fail)
            go_wp2
            go_ret
            exact ⟨by rw [HE.out]; rfl, _, by first | rfl | exact World.drewN_drewN _ _ _⟩
        · have HI' := Lib.hid (any_next HI.out Hx.out (any_all HJ.out (show ¬ j < q.length by have := Hq.out; omega)))
          go_wp2
          go_roundw
          case rel => exact ⟨i + 1, k2, by go_num, by omega, HI', rfl⟩
          case measure => simp [intOf]; omega
    · have HE : Hid (meetB l q = false) := Lib.hid (by rw [HMB.out]; exact any_all HI.out (show ¬ i < l.length by have := Hl.out; omega))
      go_wp2
      go_ret
      exact ⟨by rw [HE.out]; rfl, k, rfl⟩
end Go.Proofs.YtejccafolfeabaaGreatDoor

/-
  kerfref04: spaced, Lines, walked.
-/
namespace Go.Proofs.YtejccafolfeabaaGreatDoor
open Go.RowKit Go.Maps

/-- A block of bytes that can be written. -/
structure Byt (w : World) (b : Nat) (L : List UInt8) : Prop where
  cell : ∀ j (h : j < L.length), w.cell? ⟨b, j, none⟩ = some (.int .u8 ((L[j]'h).toNat : Int))
  free : ∀ j, j < L.length → w.frozen? ⟨b, j, none⟩ = false
theorem Byt.set_ {w : World} {b : Nat} {L : List UInt8} (h : Byt w b L) {i : Nat} (hi : i < L.length) (c : UInt8) (v : Int) (hv : v = (c.toNat : Int)) : Byt (w.setCell ⟨b, i, none⟩ (.int .u8 v)) b (L.set i c) := by
  subst hv
  refine ⟨fun j hj => ?_, fun j hj => ?_⟩
  · rw [List.length_set] at hj
    by_cases e : i = j
    · subst e
      rw [World.cell?_setCell_same _ _ _ (h.cell i hi)]; simp
    · rw [World.cell?_setCell_other _ _ _ _ (fun k => e (by injection k)), h.cell j hj]; simp [List.getElem_set_ne e]
  · rw [List.length_set] at hj
    rw [World.frozen?_setCell]; exact h.free j hj
theorem byt_world (w : World) (l : List UInt8) : Byt (Lib.bytesWorld w 5 (bytesOf l)) w.heap.size l := by
  refine ⟨fun j hj => ?_, fun j hj => ?_⟩
  · have h1 := Lib.bytesWorld_cell w 5 (bytesOf l) j (by rw [bytesOf_size]; exact hj)
    rw [bytesOf_list, List.getD_eq_getElem?_getD, List.getElem?_eq_getElem hj] at h1
    exact h1
  · unfold World.frozen?
    rw [Lib.bytesWorld_at_new]
    have hc : l.length ≤ (Lib.bytesCells w 5 (bytesOf l)).size := by
      simp [Lib.bytesCells]
      rw [bytesOf_size]; omega
    simp; omega
set_option maxRecDepth 100000 in
set_option maxHeartbeats 2000000 in
theorem vspaced_any (l : List UInt8) (w : World) (hs : l.length ≤ 1000000) : Calls Tryz.prog 80 #[.string (bytesOf l)] w fun e w' => e = .returned (.string (bytesOf (spcL l))) ∧ Below w.heap.size w w' := by
  have hcv := fun W => Lib.run_convert_string_bytes (P := Tryz.prog) W 9 66 5 (bytesOf l) Tryz.underlying9 Tryz.underlying66 Tryz.underlying5
  have hsz : (bytesOf l).size = l.length := bytesOf_size l
  have Hlen : Hid ((spcL l).length = l.length) := Lib.hid (by unfold spcL; rw [List.length_map])
  go_enter Tryz.func80, Tryz.ntmps80
  go_wp2
  have hby := byt_world w l
  have hbw := below_bytesWorld w 5 (bytesOf l)
  generalize Lib.bytesWorld w 5 (bytesOf l) = w1 at hby hbw ⊢
  clear hcv
  go_loopw [4] (fun v wr => ∃ i : Nat, v = .int .i64 i ∧ i ≤ l.length ∧ Byt wr w.heap.size ((spcL l).take i ++ l.drop i) ∧ Below w.heap.size w wr) (fun v _ => l.length - (intOf v).toNat)
  case atStart => exact ⟨0, rfl, by omega, by simpa using hby, hbw⟩
  case round =>
    clear hby hbw
    obtain ⟨i, rfl, hi, hB, hb⟩ := hrel
    have hll : ((spcL l).take i ++ l.drop i).length = l.length := by rw [List.length_append, List.length_take, List.length_drop, Hlen.out]; omega
    by_cases hlt : i < l.length
    · obtain ⟨x, Hx⟩ : ∃ x, Hid (l[i]? = some x) := ⟨_, Lib.hid (List.getElem?_eq_getElem hlt)⟩
      have hgx : ((spcL l).take i ++ l.drop i)[i]'(by omega) = x := by
        have h1 : ((spcL l).take i ++ l.drop i)[i]? = some x := by
          rw [List.getElem?_append_right (by rw [List.length_take, Hlen.out]; omega), List.length_take, Hlen.out, Nat.min_eq_left (by omega), Nat.sub_self, List.getElem?_drop]; exact Hx.out
        obtain ⟨_, h2⟩ := List.getElem?_eq_some_iff.1 h1
        exact h2
      have hc := hB.cell i (by omega)
      rw [hgx] at hc
      have hf := hB.free i (by omega)
      have hnext : ∀ y, y = (if x = 9 then 32 else x) → ((spcL l).take i ++ l.drop i).set i y = (spcL l).take (i + 1) ++ l.drop (i + 1) := fun y hy => by
        have h1 : (spcL l)[i]? = some y := by unfold spcL; rw [List.getElem?_map, Hx.out, hy]; rfl
        rw [drop_at Hx.out, List.take_add_one, h1]
        have h2 : ((spcL l).take i).length = i := by rw [List.length_take, Hlen.out]; omega
        have h3 := set_mid ((spcL l).take i) x y (l.drop (i + 1))
        rw [h2] at h3
        rw [h3]; simp
      by_cases hx9 : x = 9
      · have hz : ((x.toNat : Int) == 9) = true := by rw [hx9]; rfl
        have HN := Lib.hid (hnext 32 (by rw [if_pos hx9]))
        have HB := Lib.hid (hB.set_ (i := i) (by omega) 32 32 rfl)
        rw [HN.out] at HB
        clear hnext hx9 hgx
        go_wp2
        go_roundw
        case rel => exact ⟨i + 1, by go_num, by omega, HB.out, hb.setCell (p := ⟨w.heap.size, i, none⟩) (Nat.le_refl _) _⟩
        case measure => simp [intOf]; omega
      · have hz : ((x.toNat : Int) == 9) = false := beq_eq_false_iff_ne.2 (fun e => hx9 ((u8_eq (n := 9) (by omega)).2 (by omega)))
        have HN := Lib.hid (hnext x (by rw [if_neg hx9]))
        have hsame : ((spcL l).take i ++ l.drop i).set i x = (spcL l).take i ++ l.drop i := by
          conv => lhs; rw [← hgx]
          exact List.set_getElem_self _
        rw [hsame] at HN
        clear hnext hx9 hgx hsame
        go_wp2
        go_roundw
        case rel => exact ⟨i + 1, by go_num, by omega, by rw [← HN.out]; exact hB, hb⟩
        case measure => simp [intOf]; omega
    · have HE : Hid ((spcL l).take i ++ l.drop i = spcL l) := Lib.hid (by rw [List.take_of_length_le (by rw [Hlen.out]; omega), List.drop_of_length_le (by omega), List.append_nil])
      rw [HE.out] at hB
      have hcb := fun c => run_convert_bytes_back (P := Tryz.prog) wr 66 9 5 ⟨w.heap.size, 0, none⟩ c (spcL l) Tryz.underlying66 Tryz.underlying5 Tryz.underlying9 (fun k hk => by
        have e : (⟨w.heap.size, 0, none⟩ : Addr).add k = ⟨w.heap.size, k, none⟩ := by
          unfold Addr.add
          split
          · rename_i h0; rw [h0]
          · simp
        rw [e]; exact hB.cell k hk)
      rw [Hlen.out] at hcb
      go_wp2
      go_ret
      exact ⟨rfl, hb⟩
theorem take_sub {l : List UInt8} {a b : Nat} : (bytesOf l).extract a b = bytesOf ((l.drop a).take (b - a)) := ext_bytes2 l a b
set_option maxRecDepth 100000 in
set_option maxHeartbeats 2000000 in
theorem vLines_any (t : List UInt8) (w : World) (ht : t.length ≤ 1000000) :
    Calls Tryz.prog 39 #[.string (bytesOf t)] w fun e w' => ∃ A n c, e = .returned (.slice A n c) ∧ Own w' w.heap.size 9 1 A n c ((splitL t).map encNm) ∧ Below w.heap.size w w' := by
  obtain ⟨i0, hi0, hz0, hz1, hz2⟩ := info_parts info_cloneS
  have hsz : (bytesOf t).size = t.length := bytesOf_size t
  go_enter Tryz.func39, Tryz.ntmps39
  go_wp2
  go_loopw [3, 4, 5] (fun a f v wr => ∃ (i frm : Nat) (done : List (List UInt8)) (A : Option Addr) (n c : Nat), a = .slice A n c ∧ f = .int .i64 frm ∧ v = .int .i64 i ∧ i ≤ t.length ∧ n ≤ i ∧ frm ≤ i ∧ Hid (LinesAt t i frm done) ∧ Own wr w.heap.size 9 1 A n c (done.map encNm) ∧ Below w.heap.size w wr) (fun _ _ v _ => t.length - (intOf v).toNat)
  case atStart => exact ⟨0, 0, [], none, 0, 0, rfl, rfl, rfl, by omega, by omega, by omega, LinesAt.start t, Own.nil_ _ _ _ _, Below.refl _ _⟩
  case round =>
    obtain ⟨i, frm, done, A, n, c, rfl, rfl, rfl, hi, hni, hfi, HL, ho, hb⟩ := hrel
    have hszr := hb.size
    by_cases hlt : i < t.length
    · have hp : i < (bytesOf t).size := by omega
      have hix := index_at (bytesOf t) i i rfl hp
      obtain ⟨x, hx⟩ : ∃ x, (bytesOf t)[i]'hp = x := ⟨_, rfl⟩
      have Hx : Hid (t[i]? = some x) := Lib.hid (by have := get_list hp; rw [bytesOf_list, hx] at this; exact this)
      have hgi : (((bytesOf t)[i]'hp).toNat : Int) = (x.toNat : Int) := by rw [hx]
      rw [hx] at hix
      clear hx
      by_cases hx10 : x = 10
      · have hz : ((x.toNat : Int) == 10) = true := by rw [hx10]; rfl
        have HL' := Lib.hid (LinesAt.line HL.out (by rw [Hx.out, hx10]))
        have HX := Lib.hid (take_sub (l := t) (a := frm) (b := i))
        clear hx10
        go_wp2_with (at_builtin; go_must (refine wpList_app rfl (.tmp 16) (.tmp 21) _ rfl w.heap.size 9 i0 _ 1 16 Tryz.underlying35 hi0 hz0 hz1 hz2 rfl (by omega) A n c (done.map encNm) rfl (ho.alloc _) _ 1 1 [encNm ((t.drop frm).take (i - frm))] rfl rfl (Rd.newAt (by simp) (by simp [encNm, HX.out])) (encNm_ok [(t.drop frm).take (i - frm)]) (by unfold maxLen; omega) (by omega) (by simp; omega) ?_); intro A3 c3 w3 ho3 hg3 hA3; have hb3 := below_app (hb.alloc (by omega) _) hg3 (by simp; omega) (fun a ha => (ho.lt a ha).1); clear hg3)
        have Ho3 : Own w3 w.heap.size 9 1 A3 (n + 1) c3 ((done ++ [(t.drop frm).take (i - frm)]).map encNm) := by rw [List.map_append]; exact ho3
        clear ho3
        go_roundw
        case rel => exact ⟨i + 1, i + 1, _, A3, n + 1, c3, rfl, by go_num, by go_num, by omega, by omega, by omega, HL', Ho3, hb3⟩
        case measure => simp [intOf]; omega
      · have hz : ((x.toNat : Int) == 10) = false := beq_eq_false_iff_ne.2 (fun e => hx10 ((u8_eq (n := 10) (by omega)).2 (by omega)))
        have HL' := Lib.hid (LinesAt.byte HL.out Hx.out hx10)
        clear hx10
        go_wp2
        go_roundw
        case rel => exact ⟨i + 1, frm, done, A, n, c, rfl, rfl, by go_num, by omega, by omega, by omega, HL', ho, hb⟩
        case measure => simp [intOf]; omega
    · obtain rfl : i = t.length := by omega
      have HE := Lib.hid (LinesAt.done HL.out)
      have HX := Lib.hid (ext_bytes t frm)
      rw [hsz] at HX
      go_wp2_with (at_builtin; go_must (refine wpList_app rfl (.tmp 25) (.tmp 29) _ rfl w.heap.size 9 i0 _ 1 16 Tryz.underlying35 hi0 hz0 hz1 hz2 rfl (by omega) A n c (done.map encNm) rfl (ho.alloc _) _ 1 1 [encNm (t.drop frm)] rfl rfl (Rd.newAt (by simp) (by simp [encNm, HX.out])) (encNm_ok [t.drop frm]) (by unfold maxLen; omega) (by omega) (by simp; omega) ?_); intro A3 c3 w3 ho3 hg3 hA3; have hb3 := below_app (hb.alloc (by omega) _) hg3 (by simp; omega) (fun a ha => (ho.lt a ha).1); clear hg3)
      go_ret
      exact ⟨A3, n + 1, c3, rfl, by rw [HE.out, List.map_append]; exact ho3, hb3⟩
end Go.Proofs.YtejccafolfeabaaGreatDoor

/-
  kerfref04.(*Db).line, walked.
-/
namespace Go.Proofs.YtejccafolfeabaaGreatDoor
open Go.RowKit Go.Maps

/-- What a line leaves. -/
def LineEnd (base p x : Nat) (r : Except Int DbP) (e : Ending) (w' : World) : Prop :=
  match r with
  | .error k => e = .returned (.int .i64 k)
  | .ok d' => e = .returned (.int .i64 0) ∧ RfB w' base p x d'.names d'.sets
theorem LineEnd.err {base p x : Nat} {r : Except Int DbP} {k : Int} {w' : World} (h : r = .error k) : LineEnd base p x r (.returned (.int .i64 k)) w' := by rw [h]; exact rfl
theorem LineEnd.fine {base p x : Nat} {r : Except Int DbP} {d : DbP} {w' : World} (h : r = .ok d) (hd : RfB w' base p x d.names d.sets) : LineEnd base p x r (.returned (.int .i64 0)) w' := by rw [h]; exact ⟨rfl, hd⟩
theorem stepD_nil {d : DbP} {L : List UInt8} (h : trimL (L.take (hashP L)) = []) : stepL d L = .ok d := by
  rw [stepL_doc]; unfold lineD; simp only [h, if_true]
theorem stepD_add {d : DbP} {L : List UInt8} (h : trimL (L.take (hashP L)) ≠ []) : stepL d L = addS d (L.take (hashP L)) := by
  rw [stepL_doc]; unfold lineD addS; simp only [if_neg h]
  cases findP 59 (L.take (hashP L)) with
  | none => rfl
  | some j => rfl
theorem clash_one {d : DbP} {c : Nat} {l : List (Int × Int)} (h : d.Ok) : ClashAt d c l 1 := fun q hq hqc => by
  obtain rfl : q = 0 := by omega
  have := h.head'
  rw [List.head?_eq_getElem?] at this
  rw [List.getD_eq_getElem?_getD, this]; rfl

set_option maxRecDepth 100000 in
set_option maxHeartbeats 8000000 in
theorem vline_any (p base x : Nat) (d : DbP) (L : List UInt8) (w : World) (hd : RfB w base p x d.names d.sets) (ho : d.Ok) (hx : x < w.heap.size) (hB : base ≤ w.heap.size) (hL : L.length ≤ 65536) :
    Calls Tryz.prog 40 #[.pointer (some ⟨p, 0, none⟩), .string (bytesOf L)] w fun e w' => KX base x w w' ∧ LineEnd base p x (stepL d L) e w' := by
  obtain ⟨An, nn, cn, As, ns, cs, xs, hX⟩ := hd.ex
  have hns0 : nn = ns := by have := ho.len; have h1 := hX.lenN; have h2 := hX.lenS; omega
  subst hns0
  obtain ⟨is1, his1, hzs1, hzs2, hzs3⟩ := info_parts info_cloneS
  obtain ⟨iz1, hiz1, hzz1, hzz2, hzz3⟩ := info_parts (show (Tryz.prog.info? 37).map (fun i => (i.zero, i.size, i.bytes)) = some (some (.slice none 0 0), 1, 24) by kernel_rfl)
  have HCU := Lib.hid (vcut_any L w (by omega))
  have HNIL := Lib.hid (@stepD_nil d L)
  have HADD := Lib.hid (@stepD_add d L)
  obtain ⟨u, Hu⟩ : ∃ u, Hid (L.take (hashP L) = u) := ⟨_, rfl⟩
  have hu : u.length ≤ 65536 := by rw [← Hu.out, List.length_take]; omega
  rw [Hu.out] at HCU HNIL HADD
  have hsz : (bytesOf u).size = u.length := bytesOf_size u
  have HTU := Lib.hid (fun W => vtrim_any u W (by omega))
  have HO := Lib.hid ho
  clear ho
  by_cases hnil : trimL u = []
  · have HE := Lib.hid (HNIL.out hnil)
    have hem : (bytesOf (trimL u)).toList.isEmpty = true := by rw [ByteArray.toList_eq, bytesOf_list, hnil]; rfl
    clear hnil
    go_enter Tryz.func40, Tryz.ntmps40
    go_wp2_with fail
    refine HCU.out.mono ?_
    rintro e w2 ⟨rfl, hb2⟩
    go_wp2_with fail
    refine (HTU.out w2).mono ?_
    rintro e w3 ⟨rfl, rfl⟩
    go_wp2
    go_ret
    exact ⟨KX.below hb2 hB, LineEnd.fine HE.out (RfB.below ⟨_, _, _, _, _, _, _, hX⟩ hb2)⟩
  · have HST := Lib.hid (HADD.out hnil)
    have hem : (bytesOf (trimL u)).toList.isEmpty = false := by
      rw [ByteArray.toList_eq, bytesOf_list]
      cases hq : trimL u with
      | nil => exact absurd hq hnil
      | cons a b => rfl
    clear hnil HNIL HADD
    cases hq : findP 59 u with
    | none =>
      have HE := Lib.hid (HST.out.trans (addS_none (d := d) hq))
      rw [hq] at HCU
      clear hq
      go_enter Tryz.func40, Tryz.ntmps40
      go_wp2_with fail
      refine HCU.out.mono ?_
      rw [show fv none = -1 from rfl]
      rintro e w2 ⟨rfl, hb2⟩
      go_wp2_with fail
      refine (HTU.out w2).mono ?_
      rintro e w3 ⟨rfl, rfl⟩
      go_wp2
      go_ret
      exact ⟨KX.below hb2 hB, LineEnd.err HE.out⟩
    | some j =>
      rw [hq] at HCU
      have hj : j < u.length := (List.getElem?_eq_some_iff.1 (findP_lt (c := 59) _ u (Nat.le_refl _) j hq)).1
      obtain ⟨n, Hn⟩ : ∃ n, Hid (trimL (u.drop (j + 1)) = n) := ⟨_, rfl⟩
      have hnl : n.length ≤ 65536 := by have := Hn.out; have := trimL_len (u.drop (j + 1)); rw [List.length_drop] at this; rw [← Hn.out]; omega
      have HTR := Lib.hid (fun W => vtrim_any (u.drop (j + 1)) W (by rw [List.length_drop]; omega))
      have HX1 := Lib.hid (ext_bytes u (j + 1))
      rw [hsz] at HX1
      rw [← HX1.out, Hn.out] at HTR
      have HRP := Lib.hid (fun W => vspaced_any (u.take j) W (by rw [List.length_take]; omega))
      rw [← ext_bytes0] at HRP
      have HNM := Lib.hid (addS_name (d := d) hq)
      have HPA := Lib.hid (fun hn e => addS_parse (d := d) hq hn (e := e))
      have HMA := Lib.hid (fun hn l hp e => addS_many (d := d) hq hn (l := l) hp (e := e))
      have HCL := Lib.hid (fun hn l hp c hm => addS_clash (d := d) hq hn (l := l) hp (c := c) hm)
      have HOK := Lib.hid (fun hn l hp c hm => addS_ok (d := d) hq hn (l := l) hp (c := c) hm)
      rw [Hn.out] at HNM HPA HMA HCL HOK
      rw [← HST.out] at HNM HPA HMA HCL HOK
      clear hq HST
      go_enter Tryz.func40, Tryz.ntmps40
      go_wp2_with fail
      refine HCU.out.mono ?_
      rw [show fv (some j) = (j : Int) from rfl]
      rintro e w2 ⟨rfl, hb2⟩
      go_wp2_with fail
      refine (HTU.out w2).mono ?_
      rintro e w3 ⟨rfl, rfl⟩
      go_wp2_with fail
      refine (HTR.out w2).mono ?_
      rintro e w3 ⟨rfl, rfl⟩
      go_wp2_with fail
      refine (vName_any n w2 (by omega)).mono ?_
      rintro e w4 ⟨rfl, hb4⟩
      have hb := below_two hb2 hb4
      clear hb2 hb4
      have hX4 := hX.below hb
      cases hnm : nameL n with
      | false =>
        have HE := Lib.hid (HNM.out (.inl hnm))
        go_wp2
        go_ret
        exact ⟨KX.below hb hB, LineEnd.err HE.out⟩
      | true =>
        by_cases hot : n = otherL
        · have HE := Lib.hid (HNM.out (.inr hot))
          have heq : ((bytesOf n).toList == [79, 116, 104, 101, 114]) = true := by rw [ByteArray.toList_eq, bytesOf_list, hot]; rfl
          clear hot hnm HNM
          go_wp2
          go_ret
          exact ⟨KX.below hb hB, LineEnd.err HE.out⟩
        · have heq : ((bytesOf n).toList == [79, 116, 104, 101, 114]) = false := by rw [ByteArray.toList_eq, bytesOf_list]; exact beq_eq_false_iff_ne.2 hot
          have HNN : Hid (¬ (nameL n = false ∨ n = otherL)) := Lib.hid (fun h => by rcases h with h | h; rw [hnm] at h; cases h; exact hot h)
          clear hnm hot HNM
          go_wp2_with fail
          refine (HRP.out w4).mono ?_
          rintro e w5 ⟨rfl, hb5⟩
          go_wp2_with fail
          refine (sParse_any (bytesOf (spcL (u.take j))) w5 (by rw [bytesOf_size, spcL_len, List.length_take]; omega)).mono ?_
          rintro e w6 ⟨hb6, hpe⟩
          have hb6' := below_two (below_two hb hb5) hb6
          have hX6 := hX.below hb6'
          have hKX6 := KX.below (x := x) hb6' hB
          have hB6 : base ≤ w6.heap.size := Nat.le_trans hB hb6'.size
          have hx6 : x < w6.heap.size := Nat.lt_of_lt_of_le hx hb6'.size
          clear hX hX4 HTR HRP HCU HTU HX1
          cases hps : parseP (bytesOf (spcL (u.take j))) with
          | error y =>
            rw [hps] at hpe
            have hpe' : e = .returned (.tuple #[.slice none 0 0, .int .i64 y.1, .int .i64 y.2]) := hpe
            subst hpe'
            have hcode := parse_code hps
            have hne : ((y.1 : Int) != 0) = true := by rw [bne_iff_ne]; omega
            have HE := Lib.hid (HPA.out HNN.out y.1 (parseE_err hps))
            clear hps hpe
            go_wp2
            go_ret
            exact ⟨hKX6, LineEnd.err HE.out⟩
          | ok l0 =>
            rw [hps] at hpe
            obtain ⟨A1, n1, c1, rfl, ho1⟩ := hpe
            have HPE := Lib.hid (parseE_ok hps)
            obtain ⟨q, Hq⟩ : ∃ q, Hid (normR l0 = q) := ⟨_, rfl⟩
            have HNFq : Hid (NF q) := Lib.hid (by rw [← Hq.out]; exact normR_NF l0)
            rw [Hq.out] at ho1
            have ho1 := ho1.more (b' := base) (by have := hb5.size; have := hb.size; omega)
            have hn1 := own_nf_len ho1 HNFq.out
            have hnn : nn ≤ 64 := by have := HO.out.few; have := hX6.lenN; omega
            have HNB : Hid (nbrP d n = match d.names.idxOf? n with | some c => .ok c | none => if 64 ≤ d.names.length then .error 6 else .ok d.names.length) := rfl
            clear hps
            go_wp2_with fail
            refine (vClass_any base p x d.names d.sets n w6 ⟨_, _, _, _, _, _, _, hX6⟩ (by have := hX6.lenN; omega)).mono ?_
            rintro e w7 ⟨rfl, rfl⟩
            have hlS := hX6.lenS
            have hlN := hX6.lenN
            have hn0 : 0 < nn := by
              have h1 := HO.out.head
              cases hd : d.names with
              | nil => rw [hd] at h1; cases h1
              | cons a b => rw [hd] at hlN; simp at hlN; omega
            have c0 := hX6.blk.cell 0
            have c1' := hX6.blk.cell 1
            simp only [List.getElem?_toArray, List.getElem?_cons_zero, List.getElem?_cons_succ] at c0 c1'
            obtain ⟨g, HAs, _, _⟩ := hX6.hs.form hn0
            cases hix : d.names.idxOf? n with
            | some c =>
              rw [hix] at HNB
              have HCL' := Lib.hid (fun h => HCL.out HNN.out l0 HPE.out c HNB.out (by rw [Hq.out]; exact h))
              have HOK' := Lib.hid (fun h => HOK.out HNN.out l0 HPE.out c HNB.out (by rw [Hq.out]; exact h))
              rw [Hq.out] at HOK'
              have hclt : c < nn := by have := (List.getElem?_eq_some_iff.1 (idxOf?_some hix)).1; omega
              rw [show ((some c).getD 0 : Nat) = c from rfl, show (some c).isSome = true from rfl]
              clear hix
              go_wp2_with fail
              go_loopw [12] (fun v wr => ∃ (k m : Nat), v = .int .i64 k ∧ k ≤ nn ∧ Hid (ClashAt d c q k) ∧ wr = w6.drewN m) (fun v _ => nn - (intOf v).toNat)
              case atStart => exact ⟨1, 0, rfl, by omega, clash_one HO.out, rfl⟩
              case round =>
                obtain ⟨k, m, rfl, hk, HC, rfl⟩ := hrel
                by_cases hlt : k < nn
                · obtain ⟨s, Hs⟩ : ∃ s, Hid (d.sets[k]? = some s) := ⟨_, Lib.hid (List.getElem?_eq_getElem (show k < d.sets.length by omega))⟩
                  obtain ⟨y, Hy⟩ : ∃ y, Hid (xs[k]? = some y) := ⟨_, Lib.hid (List.getElem?_eq_getElem (show k < xs.length by omega))⟩
                  have hoy := hX6.hx.own k y s Hy.out Hs.out
                  have HNFs : Hid (NF s) := Lib.hid (HO.out.nf s (List.mem_of_getElem? Hs.out))
                  have hny := own_nf_len hoy HNFs.out
                  have hly : s.length = y.2.1 := by simpa using hoy.len
                  have hcell := hX6.hs.cell' HAs (k := k) (y := y) Hy.out
                  subst HAs
                  by_cases hkc : k = c
                  · have hbb : ((k : Int) != (c : Int)) = false := by rw [hkc]; simp
                    have HC' := Lib.hid (clashAt_next HC.out Hs.out (.inl hkc))
                    clear hkc
                    go_wp2
                    go_roundw
                    case rel => exact ⟨k + 1, m, by go_num, by omega, HC', rfl⟩
                    case measure => simp [intOf]; omega
                  · have hbb : ((k : Int) != (c : Int)) = true := by rw [bne_iff_ne]; omega
                    cases hmt : meetB s q with
                    | true =>
                      have HE := Lib.hid (HCL'.out (clash_here Hs.out hkc hmt))
                      clear hkc
                      go_wp2_with (go_at_call 81; refine (vmeet_any y.1 A1 y.2.1 y.2.2 n1 c1 s q (w6.drewN m) ((hoy.rd (by omega)).drewN m) ((ho1.rd (by omega)).drewN m) hly (by simpa using ho1.len) (by omega) (by omega)).mono ?_; rw [hmt]; rintro e w8 ⟨rfl, m2, rfl⟩)
                      go_ret
                      exact ⟨hKX6.trans (KX.below (by first | exact below_refl_drewN _ _ | exact below_drewN (below_refl_drewN _ _) _) hB6), LineEnd.err HE.out⟩
                    | false =>
                      have HC' := Lib.hid (clashAt_next HC.out Hs.out (.inr hmt))
                      clear hkc
                      go_wp2_with (go_at_call 81; refine (vmeet_any y.1 A1 y.2.1 y.2.2 n1 c1 s q (w6.drewN m) ((hoy.rd (by omega)).drewN m) ((ho1.rd (by omega)).drewN m) hly (by simpa using ho1.len) (by omega) (by omega)).mono ?_; rw [hmt]; rintro e w8 ⟨rfl, m2, rfl⟩)
                      go_roundw
                      case rel => exact ⟨k + 1, _, by go_num, by omega, HC', by first | rfl | exact World.drewN_drewN _ _ _⟩
                      case measure => simp [intOf]; omega
                · have HC2 := Lib.hid (HOK'.out (clashAt_end HC.out (show ¬ k < d.sets.length by omega)))
                  have hbm : Below w6.heap.size w6 (w6.drewN m) := below_refl_drewN _ _
                  have hXm := hX6.below hbm
                  have hom := ho1.below hbm
                  have hKt := hKX6.trans (KX.below hbm hB6)
                  have hBt : base ≤ (w6.drewN m).heap.size := hB6
                  generalize w6.drewN m = wm at hXm hom hKt hBt ⊢
                  have hXmN := hXm.lenN
                  have HP' : Hid (putP d n c q = ⟨d.names, d.sets.set c (orR (d.sets.getD c []) q)⟩) := Lib.hid (putP_old (by omega))
                  obtain ⟨l1, Hl1⟩ : ∃ l1, Hid (d.sets[c]? = some l1) := ⟨_, Lib.hid (List.getElem?_eq_getElem (show c < d.sets.length by omega))⟩
                  have HP2 : Hid (stepL d L = .ok ⟨d.names, d.sets.set c (orR l1 q)⟩) := Lib.hid (by rw [HC2.out, HP'.out, List.getD_eq_getElem?_getD, Hl1.out]; rfl)
                  obtain ⟨y, Hxc⟩ : ∃ y, Hid (xs[c]? = some y) := ⟨_, Lib.hid (List.getElem?_eq_getElem (show c < xs.length by omega))⟩
                  have hoy := hXm.hx.own c y l1 Hxc.out Hl1.out
                  have hny := own_nf_len hoy (HO.out.nf l1 (List.mem_of_getElem? Hl1.out))
                  have hrd0 := hoy.rd (by omega)
                  have hrd1 := hom.rd (by omega)
                  have hlen0 : l1.length = y.2.1 := by simpa using hoy.len
                  have hlen1 : q.length = n1 := by simpa using hom.len
                  have k0 := hXm.blk.cell 0
                  simp at k0
                  clear hX6 ho1 HC HCL' HOK' c0 c1' hKX6 hB6 hx6 hbm HAs hXmN hlN
                  go_wp2_with fail
                  obtain ⟨g, HAs, _, _⟩ := hXm.hs.form (show 0 < nn by omega)
                  have hcell := hXm.hs.cell' HAs (k := c) (y := y) Hxc.out
                  subst HAs
                  have k1 := hXm.blk.cell 1
                  simp at k1
                  have hXd := hXm.below (w' := wm.drew) ((Below.refl _ _).drew)
                  have HOR := Lib.hid (sOr_any y.1 A1 y.2.1 y.2.2 n1 c1 l1 q wm.drew hrd0.drew hrd1.drew hlen0 hlen1 (by omega))
                  refine wp_region_noPanic ?_
                  go_region_law (go_simp; go_at_call 82; refine HOR.out.mono ?_; rintro e wz ⟨A', n', c', rfl, ho', hb'⟩; have kz1 := cell_keep (w := wm.drew) k1 hb'; have kzc := cell_keep (w := wm.drew) hcell hb'; have kzf := (hXd.hs.below hb').frozen c)
                  all_goals
                    refine NoPanic.normal ?_
                    have hDz := (hXd.below hb').storeSet (k := c) (y := (A', n', c')) (show c < nn by omega) ho' hBt
                    have hKz := (hKt.trans ((KX.below ((Below.refl _ _).drew) hBt).trans (KX.below hb' hBt))).trans hDz.2
                    go_wp2
                    go_ret
                    exact ⟨hKz, LineEnd.fine HP2.out ⟨_, _, _, _, _, _, _, hDz.1⟩⟩

            | none =>
              rw [hix] at HNB
              rw [show ((none : Option Nat).getD 0 : Nat) = 0 from rfl, show (none : Option Nat).isSome = false from rfl]
              clear hix
              by_cases h64 : 64 ≤ nn
              · have HE := Lib.hid (HMA.out HNN.out l0 HPE.out 6 (by rw [HNB.out]; exact if_pos (by omega)))
                have h64b : (64 : Int) ≤ nn := by omega
                clear hlN
                go_wp2
                go_ret
                exact ⟨hKX6, LineEnd.err HE.out⟩
              · have HNB2 : Hid (nbrP d n = .ok nn) := Lib.hid (by rw [HNB.out, ← hlN]; exact if_neg (by omega))
                obtain ⟨c, Hc⟩ : ∃ c, Hid (c = nn) := ⟨_, rfl⟩
                have HCL' := Lib.hid (fun h => HCL.out HNN.out l0 HPE.out nn HNB2.out (by rw [Hq.out]; exact h))
                have HOK' := Lib.hid (fun h => HOK.out HNN.out l0 HPE.out nn HNB2.out (by rw [Hq.out]; exact h))
                rw [Hq.out] at HOK'
                have h64b : ¬ (64 : Int) ≤ nn := by omega
                go_wp2_with fail
                go_loopw [12] (fun v wr => ∃ (k m : Nat), v = .int .i64 k ∧ k ≤ nn ∧ Hid (ClashAt d nn q k) ∧ wr = w6.drewN m) (fun v _ => nn - (intOf v).toNat)
                case atStart => exact ⟨1, 0, rfl, by omega, clash_one HO.out, rfl⟩
                case round =>
                  obtain ⟨k, m, rfl, hk, HC, rfl⟩ := hrel
                  by_cases hlt : k < nn
                  · obtain ⟨s, Hs⟩ : ∃ s, Hid (d.sets[k]? = some s) := ⟨_, Lib.hid (List.getElem?_eq_getElem (show k < d.sets.length by omega))⟩
                    obtain ⟨y, Hy⟩ : ∃ y, Hid (xs[k]? = some y) := ⟨_, Lib.hid (List.getElem?_eq_getElem (show k < xs.length by omega))⟩
                    have hoy := hX6.hx.own k y s Hy.out Hs.out
                    have HNFs : Hid (NF s) := Lib.hid (HO.out.nf s (List.mem_of_getElem? Hs.out))
                    have hny := own_nf_len hoy HNFs.out
                    have hly : s.length = y.2.1 := by simpa using hoy.len
                    have hcell := hX6.hs.cell' HAs (k := k) (y := y) Hy.out
                    subst HAs
                    by_cases hkc : k = nn
                    · have hbb : ((k : Int) != (nn : Int)) = false := by rw [hkc]; simp
                      have HC' := Lib.hid (clashAt_next HC.out Hs.out (.inl hkc))
                      clear hkc
                      go_wp2
                      go_roundw
                      case rel => exact ⟨k + 1, m, by go_num, by omega, HC', rfl⟩
                      case measure => simp [intOf]; omega
                    · have hbb : ((k : Int) != (nn : Int)) = true := by rw [bne_iff_ne]; omega
                      cases hmt : meetB s q with
                      | true =>
                        have HE := Lib.hid (HCL'.out (clash_here Hs.out hkc hmt))
                        clear hkc
                        go_wp2_with (go_at_call 81; refine (vmeet_any y.1 A1 y.2.1 y.2.2 n1 c1 s q (w6.drewN m) ((hoy.rd (by omega)).drewN m) ((ho1.rd (by omega)).drewN m) hly (by simpa using ho1.len) (by omega) (by omega)).mono ?_; rw [hmt]; rintro e w8 ⟨rfl, m2, rfl⟩)
                        go_ret
                        exact ⟨hKX6.trans (KX.below (by first | exact below_refl_drewN _ _ | exact below_drewN (below_refl_drewN _ _) _) hB6), LineEnd.err HE.out⟩
                      | false =>
                        have HC' := Lib.hid (clashAt_next HC.out Hs.out (.inr hmt))
                        clear hkc
                        go_wp2_with (go_at_call 81; refine (vmeet_any y.1 A1 y.2.1 y.2.2 n1 c1 s q (w6.drewN m) ((hoy.rd (by omega)).drewN m) ((ho1.rd (by omega)).drewN m) hly (by simpa using ho1.len) (by omega) (by omega)).mono ?_; rw [hmt]; rintro e w8 ⟨rfl, m2, rfl⟩)
                        go_roundw
                        case rel => exact ⟨k + 1, _, by go_num, by omega, HC', by first | rfl | exact World.drewN_drewN _ _ _⟩
                        case measure => simp [intOf]; omega
                  · have HC2 := Lib.hid (HOK'.out (clashAt_end HC.out (show ¬ k < d.sets.length by omega)))
                    have hbm : Below w6.heap.size w6 (w6.drewN m) := below_refl_drewN _ _
                    have hXm := hX6.below hbm
                    have hom := ho1.below hbm
                    have hKm := hKX6.trans (KX.below hbm hB6)
                    have hBm : base ≤ (w6.drewN m).heap.size := hB6
                    have hxm : x < (w6.drewN m).heap.size := hx6
                    generalize w6.drewN m = wm at hXm hom hKm hBm hxm ⊢
                    have HP2 : Hid (stepL d L = .ok ⟨d.names ++ [n], (d.sets ++ [[]]).set nn (orR [] q)⟩) := Lib.hid (by
                      have e : (d.sets ++ [[]]).set nn (orR [] q) = d.sets ++ [orR [] q] := by
                        have := set_mid d.sets [] (orR [] q) []
                        rw [show nn = d.sets.length by omega]; exact this
                      rw [HC2.out, e, ← hXm.lenN]; exact congrArg Except.ok putP_new)
                    have Hxc : Hid ((xs ++ [((none : Option Addr), 0, 0)])[nn]? = some (none, 0, 0)) := Lib.hid (by rw [show nn = xs.length by omega]; exact get_mid xs _ [])
                    have hclt : nn < nn + 1 := by omega
                    have k0 := hXm.blk.cell 0
                    simp at k0
                    have on8 := hXm.hn
                    clear hX6 ho1 HC HCL' HOK' c0 c1' hKX6 hB6 hx6 hbm HAs hlN
                    go_wp2_with (first
                      | (at_builtin; refine wpList_app rfl (.tmp 95) (.tmp 97) _ rfl base 9 is1 _ 1 16 Tryz.underlying35 his1 hzs1 hzs2 hzs3 rfl (by omega) An nn cn (d.names.map encNm) rfl (on8.alloc _) _ 1 1 [encNm n] rfl rfl (Rd.newAt (by simp) rfl) (encNm_ok [n]) (by unfold maxLen; omega) (by omega) (by simp; omega) ?_; intro A3 c3 w9 ho9 hg9 hA9; have HN9 := hXm.named (by rw [List.map_append]; exact ho9) hg9 hA9 hxm hBm; have k90 := HN9.1.cell 0; have f90 := HN9.1.frozen 0; have k92 := HN9.2.1.blk.cell 1; simp only [List.getElem?_toArray, List.getElem?_cons_zero, List.getElem?_cons_succ] at k90 k92; have hz9 : wm.heap.size ≤ (w9.setCell ⟨p, 0, none⟩ (.slice A3 (nn + 1) c3)).heap.size := HN9.2.2.1.1.size)
                      | (at_builtin; refine wpList_app rfl (.tmp 105) (.tmp 106) _ rfl base 37 iz1 _ 1 24 Tryz.underlying68 hiz1 hzz1 hzz2 hzz3 rfl (by omega) As nn cs (xs.map encSl) rfl (HN9.2.1.hs.alloc _) _ 1 1 [encSl (none, 0, 0)] rfl rfl (Rd.newAt (by simp [World.setCell]) rfl) (encSl_ok [(none, 0, 0)]) (by unfold maxLen; omega) (by omega) (by simp [World.setCell] at hz9 ⊢; omega) ?_; intro A6 c6 w11 ho11 hg11 hA11; have HM := HN9.2.1.moreSet (by rw [List.map_append]; exact ho11) hg11 hA11 (by omega) (by omega); have k110 := HM.1.cell 1; have f110 := HM.1.frozen 1; have k112 := HM.2.1.blk.cell 1; simp only [List.getElem?_toArray, List.getElem?_cons_zero, List.getElem?_cons_succ] at k110 k112)
                      | fail)
                    have hXt := HM.2.1
                    have hKt := (hKm.trans HN9.2.2.1).trans HM.2.2.1
                    have hot := (hom.keepR HN9.2.2.2 (Nat.le_refl _)).keepR HM.2.2.2 (Nat.le_refl _)
                    have hBt : base ≤ (w11.setCell ⟨p, 1, none⟩ (.slice A6 (nn + 1) c6)).heap.size := Nat.le_trans hBm (Nat.le_trans hz9 HM.2.2.1.1.size)
                    clear HM HN9 hg9 hA9 ho9 k90 f90 k92 hz9 hg11 hA11 ho11 k110 f110 k112 hXm hom hKm hBm hxm k0 on8
                    generalize w11.setCell ⟨p, 1, none⟩ (.slice A6 (nn + 1) c6) = wt at hXt hKt hot hBt ⊢
                    have hrd0 : Rd wt 2 none (([] : List (Int × Int)).map encR) := Rd.nil_ _ _ _
                    have hrd1 := hot.rd (by omega)
                    have hlen0 : ([] : List (Int × Int)).length = 0 := rfl
                    have hlen1 : q.length = n1 := by simpa using hot.len
                    have hcI : (nn : Int) < (nn : Int) + 1 := by omega
                    obtain ⟨g, HAs, _, _⟩ := hXt.hs.form (show 0 < nn + 1 by omega)
                    have hcell := hXt.hs.cell' HAs (k := nn) (y := ((none : Option Addr), 0, 0)) Hxc.out
                    subst HAs
                    have k1 := hXt.blk.cell 1
                    simp at k1
                    have hXd := hXt.below (w' := wt.drew) ((Below.refl _ _).drew)
                    have HOR := Lib.hid (sOr_any none A1 0 0 n1 c1 [] q wt.drew hrd0.drew hrd1.drew hlen0 hlen1 (by omega))
                    refine wp_region_noPanic ?_
                    go_region_law (go_simp; go_at_call 82; refine HOR.out.mono ?_; rintro e wz ⟨A', n', c', rfl, ho', hb'⟩; have kz1 := cell_keep (w := wt.drew) k1 hb'; have kzc := cell_keep (w := wt.drew) hcell hb'; have kzf := (hXd.hs.below hb').frozen nn)
                    all_goals
                      refine NoPanic.normal ?_
                      have hDz := (hXd.below hb').storeSet (k := nn) (y := (A', n', c')) (show nn < nn + 1 by omega) ho' hBt
                      have hKz := (hKt.trans ((KX.below ((Below.refl _ _).drew) hBt).trans (KX.below hb' hBt))).trans hDz.2
                      go_wp2
                      go_ret
                      exact ⟨hKz, LineEnd.fine HP2.out ⟨_, _, _, _, _, _, _, hDz.1⟩⟩
end Go.Proofs.YtejccafolfeabaaGreatDoor

/-
  kerfref04: rest, New, walked.
-/
namespace Go.Proofs.YtejccafolfeabaaGreatDoor
open Go.RowKit Go.Maps

set_option maxRecDepth 100000 in
set_option maxHeartbeats 8000000 in
theorem vrest_any (p base x : Nat) (d : DbP) (w : World) (hd : RfB w base p x d.names d.sets) (ho : d.Ok) (ha : Apart d.sets) (hB : base ≤ w.heap.size) :
    Calls Tryz.prog 41 #[.pointer (some ⟨p, 0, none⟩)] w fun e w' => e = .returned (.tuple #[]) ∧ RfB w' base p x d.names d.full ∧ Below base w w' := by
  obtain ⟨An, nn, cn, As, ns, cs, xs, hX⟩ := hd.ex
  obtain ⟨j0, hj0, hy0, hy1, hy2⟩ := info_parts infoR
  have hns1 : 0 < ns := by
    have h1 := hX.lenS.2; have h2 := ho.len; have h3 := ho.head
    cases hd : d.names with
    | nil => rw [hd] at h3; cases h3
    | cons a b => rw [hd] at h2; simp at h2; omega
  obtain ⟨g, HAs, hgB, hgw⟩ := hX.hs.form hns1
  subst HAs
  have hns64 : ns ≤ 64 := by have h1 := hX.lenS.2; have h2 := ho.len; have h3 := ho.few; omega
  obtain ⟨T, HT⟩ : ∃ T, Hid (d.sets.tail = T) := ⟨_, rfl⟩
  have hTl : T.length + 1 = ns := by have h1 := hX.lenS.2; have := HT.out; rw [← this, List.length_tail]; omega
  have HTl := Lib.hid hTl
  have HTS : Hid (lenS T ≤ 1114112) := Lib.hid (by have := rng_len ho ha; rw [← HT.out]; omega)
  have HTN : Hid (∀ (k : Nat) (s : List (Int × Int)), T[k]? = some s → NF s ∧ d.sets[k + 1]? = some s) := Lib.hid (fun k s hk => by
    have : d.sets[k + 1]? = some s := by rw [← HT.out] at hk; rw [List.getElem?_tail] at hk; exact hk
    exact ⟨ho.nf s (List.mem_of_getElem? this), this⟩)
  have HFS := Lib.hid (full_set ho)
  have HRest : Hid (d.rest = notR (T.flatten)) := Lib.hid (by unfold DbP.rest; rw [HT.out])
  have c1 := hX.blk.cell 1
  simp at c1
  clear ho ha hTl hd
  go_enter Tryz.func41, Tryz.ntmps41
  go_wp2_with fail
  go_loopw [2, 3] (fun a v wr => ∃ (c : Nat) (Aa : Option Addr) (na ca : Nat), a = .slice Aa na ca ∧ v = .int .i64 (c + 1 : Nat) ∧ c + 1 ≤ ns ∧ Own wr w.heap.size 80 2 Aa na ca (((T.take c).flatten).map encR) ∧ Below w.heap.size w wr) (fun _ v _ => ns - (intOf v).toNat)
  case atStart => exact ⟨0, none, 0, 0, rfl, rfl, by omega, by simp; exact Own.nil_ _ _ _ _, Below.refl _ _⟩
  case round =>
    obtain ⟨c, Aa, na, ca, rfl, rfl, hc, hal, hb⟩ := hrel
    have hszr := hb.size
    have e1 := cell_keep c1 hb
    have hfl := Lib.hid (flat_le T c)
    have hnal : na ≤ 1114112 := by have h1 := hal.len; rw [List.length_map] at h1; have := hfl.out; have := HTS.out; omega
    by_cases hlt : c + 1 < ns
    · obtain ⟨s, Hs⟩ : ∃ s, Hid (T[c]? = some s) := ⟨_, Lib.hid (List.getElem?_eq_getElem (show c < T.length by have := HTl.out; omega))⟩
      obtain ⟨HNF, Hd⟩ := HTN.out c s Hs.out
      obtain ⟨⟨yA, yn, yc⟩, Hy⟩ : ∃ y, Hid (xs[c + 1]? = some y) := ⟨_, Lib.hid (List.getElem?_eq_getElem (show c + 1 < xs.length by have := hX.lenS.1; omega))⟩
      have hoy : Own w base 80 2 yA yn yc (s.map encR) := hX.hx.own (c + 1) (yA, yn, yc) s Hy.out Hd
      have hly : s.length = yn := by simpa using hoy.len
      have Hly := Lib.hid hly
      have hny := own_nf_len hoy HNF
      have hcell := cell_keep (hX.hs.cell' rfl Hy.out) hb
      have hoq := hoy.below hb
      have HFN := Lib.hid (flat_next Hs.out)
      have hfl2 := Lib.hid (flat_le T (c + 1))
      have hbound : na + yn ≤ 1114112 := by
        have h1 := hal.len; rw [List.length_map] at h1
        have h2 := hfl2.out; rw [HFN.out, List.length_append] at h2; have := HTS.out; omega
      have hI : (c : Int) + 1 < ns := by omega
      clear HNF Hd hly
      go_wp2_with (at_builtin; go_must (refine wpList_app rfl (.tmp 13) (.tmp 20) _ rfl w.heap.size 80 j0 _ 2 8 Tryz.underlying37 hj0 hy0 hy1 hy2 rfl (by omega) Aa na ca (((T.take c).flatten).map encR) rfl hal yA yn yc (s.map encR) rfl (by rw [List.length_map]; exact Hly.out) (hoq.rd (by omega)) (encR_ok s) (by unfold maxLen; omega) (by omega) (by omega) ?_); intro A3 c3 w3 ho3 hg3 hA3)
      have Ho3 : Own w3 w.heap.size 80 2 A3 (na + yn) c3 (((T.take (c + 1)).flatten).map encR) := by rw [HFN.out, List.map_append]; exact ho3
      have hb3 := below_app hb hg3 hszr (fun a ha => (hal.lt a ha).1)
      clear ho3 hg3
      go_roundw
      case rel => exact ⟨c + 1, A3, na + yn, c3, rfl, by go_num, by omega, Ho3, hb3⟩
      case measure => simp [intOf]; omega
    · obtain rfl : c + 1 = ns := by omega
      have HFe : Hid ((T.take c).flatten = T.flatten) := Lib.hid (by rw [List.take_of_length_le (by have := HTl.out; omega)])
      rw [HFe.out] at hal
      have hXr := hX.below hb
      have HNot := Lib.hid (sNot_any Aa na ca T.flatten wr.drew ((hal.rd (by omega)).drew) (by have h1 := hal.len; rw [List.length_map] at h1; exact h1) (by omega))
      obtain ⟨y0, hy0'⟩ : ∃ y, xs[0]? = some y := ⟨_, List.getElem?_eq_getElem (show 0 < xs.length by have := hX.lenS.1; omega)⟩
      have k0 := hXr.hs.cell' rfl hy0'
      have hXd := hXr.below (w' := wr.drew) ((Below.refl _ _).drew)
      have hBr : base ≤ wr.heap.size := by omega
      go_wp2_with fail
      refine wp_region_noPanic ?_
      go_region_law (go_simp; go_at_call 83; refine HNot.out.mono ?_; rintro e wz ⟨A', n', c', rfl, ho', hb'⟩; have kz0 := cell_keep (w := wr.drew) k0 hb'; have kz1 := cell_keep (w := wr.drew) e1 hb'; have kzf := (hXd.hs.below hb').frozen 0)
      all_goals
        refine NoPanic.normal ?_
        have hDz := (hXd.below hb').storeSet (k := 0) (y := (A', n', c')) (l := d.rest) (by omega) (by rw [HRest.out]; exact ho') hBr
        have hbz := (((hb.mono hB).trans ((Below.refl wr.heap.size wr).drew.mono hBr)).trans (hb'.mono hBr)).trans hDz.2.1
        rw [HFS.out] at hDz
        go_wp2
        first | exact ⟨_, results_none rfl _ _ _, rfl, ⟨_, _, _, _, _, _, _, hDz.1⟩, hbz⟩ | exact ⟨_, rfl, results_none rfl _ _ _, rfl, ⟨_, _, _, _, _, _, _, hDz.1⟩, hbz⟩ | exact ⟨rfl, _, results_none rfl _ _ _, rfl, ⟨_, _, _, _, _, _, _, hDz.1⟩, hbz⟩

/-- What the document's New leaves. -/
def RNewEnd (r : Except (Int × Nat) DbP) (e : Ending) (w' : World) (base : Nat) : Prop :=
  match r with
  | .error x => e = .returned (.tuple #[.pointer none, .int .i64 x.1, .int .i64 (x.2 : Int)])
  | .ok d => ∃ p x, e = .returned (.tuple #[.pointer (some ⟨p, 0, none⟩), .int .i64 0, .int .i64 0]) ∧ RfB w' base p x d.names d.full
theorem RNewEnd.err {r : Except (Int × Nat) DbP} {k : Int} {i : Nat} {w' : World} {base : Nat} (h : r = .error (k, i)) : RNewEnd r (.returned (.tuple #[.pointer none, .int .i64 k, .int .i64 (i : Int)])) w' base := by rw [h]; exact rfl
theorem RNewEnd.fine {r : Except (Int × Nat) DbP} {d : DbP} {p x : Nat} {w' : World} {base : Nat} (h : r = .ok d) (hd : RfB w' base p x d.names d.full) : RNewEnd r (.returned (.tuple #[.pointer (some ⟨p, 0, none⟩), .int .i64 0, .int .i64 0])) w' base := by rw [h]; exact ⟨p, x, rfl, hd⟩

theorem step_err {d : DbP} {L : List UInt8} {k : Int} (h : stepL d L = .error k) : 6 ≤ k := by
  unfold stepL at h
  split at h
  · cases h
  · injection h with h; omega
  · exact addL_err h
/-- The document's database at first. -/
theorem rfX_first (w : World) :
    RfX (((w.alloc (.cells #[.string (bytesOf otherL)] 9)).alloc (.cells #[.slice none 0 0] 37)).alloc (.cells #[.slice (some ⟨w.heap.size, 0, none⟩) 1 1, .slice (some ⟨w.heap.size + 1, 0, none⟩) 1 1] 75)) w.heap.size (w.heap.size + 2) (w.heap.size + 3)
      (some ⟨w.heap.size, 0, none⟩) 1 1 (some ⟨w.heap.size + 1, 0, none⟩) 1 1 [(none, 0, 0)] [otherL] [[]] ∧
    Below w.heap.size w (((w.alloc (.cells #[.string (bytesOf otherL)] 9)).alloc (.cells #[.slice none 0 0] 37)).alloc (.cells #[.slice (some ⟨w.heap.size, 0, none⟩) 1 1, .slice (some ⟨w.heap.size + 1, 0, none⟩) 1 1] 75)) := by
  have n1 : Own (w.alloc (.cells #[.string (bytesOf otherL)] 9)) w.heap.size 9 1 (some ⟨w.heap.size, 0, none⟩) 1 1 ([otherL].map encNm) := own_one (Nat.le_refl _)
  have s2 : Own ((w.alloc (.cells #[.string (bytesOf otherL)] 9)).alloc (.cells #[.slice none 0 0] 37)) w.heap.size 37 1 (some ⟨w.heap.size + 1, 0, none⟩) 1 1 ([((none : Option Addr), 0, 0)].map encSl) := by
    have := own_one (w := w.alloc (.cells #[.string (bytesOf otherL)] 9)) (t := 37) (u := .slice none 0 0) (base := w.heap.size) (by simp)
    rw [show (w.alloc (.cells #[.string (bytesOf otherL)] 9)).heap.size = w.heap.size + 1 by simp] at this
    exact this
  refine ⟨⟨?_, by omega, (n1.alloc _).alloc _, s2.alloc _, ⟨rfl, ?_⟩, by omega, fun a ha => by injection ha with ha; subst ha; show w.heap.size ≠ w.heap.size + 3; omega, fun a ha => by injection ha with ha; subst ha; show w.heap.size + 1 ≠ w.heap.size + 3; omega⟩, ?_⟩
  · have := Blk.new ((w.alloc (.cells #[.string (bytesOf otherL)] 9)).alloc (.cells #[.slice none 0 0] 37)) 75 #[.slice (some ⟨w.heap.size, 0, none⟩) 1 1, .slice (some ⟨w.heap.size + 1, 0, none⟩) 1 1]
    simpa using this
  · intro k x l hx hl
    match k, hx, hl with
    | 0, hx, hl => simp at hx hl; subst hx; subst hl; exact Own.nil_ _ _ _ _
    | k + 1, hx, hl => simp at hx
  · exact (((Below.refl _ _).alloc (Nat.le_refl _) _).alloc (by simp) _).alloc (by simp; omega) _

set_option maxRecDepth 100000 in
set_option maxHeartbeats 8000000 in
theorem vNew_any (t : List UInt8) (w : World) (ht : t.length ≤ maxLen) :
    Calls Tryz.prog 14 #[.string (bytesOf t)] w fun e w' => RNewEnd (newP t) e w' w.heap.size ∧ Below w.heap.size w w' := by
  have hsz : (bytesOf t).size = t.length := bytesOf_size t
  unfold maxLen at ht
  by_cases hl : 65536 < t.length
  · have HE := Lib.hid (newP_long hl)
    go_enter Tryz.func14, Tryz.ntmps14
    go_wp2
    go_ret3
    exact ⟨RNewEnd.err HE.out, Below.refl _ _⟩
  · have HG := Lib.hid (newP_go hl)
    obtain ⟨hX, hB0⟩ := rfX_first w
    have hw3 : w.heap.size + 3 = (((w.alloc (.cells #[.string (bytesOf otherL)] 9)).alloc (.cells #[.slice none 0 0] 37)).alloc (.cells #[.slice (some ⟨w.heap.size, 0, none⟩) 1 1, .slice (some ⟨w.heap.size + 1, 0, none⟩) 1 1] 75)).heap.size := by simp
    obtain ⟨L, HL⟩ : ∃ L, Hid (splitL t = L) := ⟨_, rfl⟩
    have HLl := Lib.hid (fun i l (h : L[i]? = some l) => line_len (t := t) (i := i) (l := l) (by rw [HL.out]; exact h))
    have HLn : Hid (L.length ≤ 65537) := Lib.hid (by rw [← HL.out, splitL_count]; have := List.count_le_length (a := (10 : UInt8)) (l := t); omega)
    have HNP : Hid (newP t = linesGo DbP.first L 0) := Lib.hid (by rw [HG.out, HL.out])
    have HV := Lib.hid (fun W => vLines_any t W (by omega))
    rw [HL.out] at HV
    go_enter Tryz.func14, Tryz.ntmps14
    go_wp2_with fail
    rw [show (⟨#[79, 116, 104, 101, 114]⟩ : ByteArray) = bytesOf otherL from rfl]
    generalize ((w.alloc (.cells #[.string (bytesOf otherL)] 9)).alloc (.cells #[.slice none 0 0] 37)).alloc (.cells #[.slice (some ⟨w.heap.size, 0, none⟩) 1 1, .slice (some ⟨w.heap.size + 1, 0, none⟩) 1 1] 75) = w3 at hX hB0 hw3 ⊢
    refine (HV.out w3).mono ?_
    rintro e w4 ⟨AL, nL, cL, rfl, hoL, hb4⟩
    have hnL : L.length = nL := by simpa using hoL.len
    have hX4 := hX.below hb4
    have hB4 := below_step hB0 hb4 (by have := hB0.size; omega)
    have HnL := Lib.hid hnL
    have HLne : Hid (L ≠ []) := Lib.hid (by rw [← HL.out]; exact splitL_ne t)
    clear hnL HG HL
    -- the block of the lines, or none
    obtain ⟨x, hxw, hXx, hcells⟩ : ∃ x, x < w4.heap.size ∧ RfX w4 w.heap.size (w.heap.size + 2) x (some ⟨w.heap.size, 0, none⟩) 1 1 (some ⟨w.heap.size + 1, 0, none⟩) 1 1 [(none, 0, 0)] [otherL] [[]] ∧
        (∀ W : World, W.heap[x]? = w4.heap[x]? → ∀ i l, L[i]? = some l → ∃ off, AL = some ⟨x, off, none⟩ ∧ W.cell? ⟨x, off + i, none⟩ = some (.string (bytesOf l))) := by
      have h0 : 0 < nL := by
        cases hq : L with
        | nil => exact absurd hq HLne.out
        | cons a b => rw [← HnL.out, hq]; simp
      obtain ⟨gx, hgx, hg1, hg2⟩ := hoL.form h0
      subst hgx
      refine ⟨gx, hg2, { hX4 with xp := by omega, xn := fun a ha => by injection ha with ha; subst ha; show w.heap.size ≠ gx; omega, xs_ := fun a ha => by injection ha with ha; subst ha; show w.heap.size + 1 ≠ gx; omega }, fun W hW i l hl => ?_⟩
      have h1 := hoL.cell (k := i) (j := 0) (x := encNm l) (u := .string (bytesOf l)) (by rw [List.getElem?_map, hl]; rfl) rfl
      simp only [Nat.mul_one, Nat.add_zero] at h1
      exact ⟨0, rfl, by rw [Nat.zero_add]; exact (World.cell?_of_block hW).trans h1⟩
    have HCells := Lib.hid hcells
    have hsw := hB4.size
    clear hcells hX hX4 hB0 hw3 hb4 hoL
    generalize w.heap.size + 2 = p at hXx ⊢
    go_wp2_with fail
    go_loopw [7] (fun v wr => ∃ (i : Nat) (d : DbP), v = .int .i64 i ∧ i ≤ L.length ∧ RfB wr w.heap.size p x d.names d.sets ∧ wr.heap[x]? = w4.heap[x]? ∧ Hid (NewAt L i d) ∧ Below w.heap.size w wr ∧ x < wr.heap.size) (fun v _ => L.length - (intOf v).toNat)
    case atStart => exact ⟨0, DbP.first, rfl, by omega, ⟨_, _, _, _, _, _, _, hXx⟩, rfl, newAt_first L, hB4, hxw⟩
    case round =>
      clear hXx
      obtain ⟨i, d, rfl, hi, hd, hxr, HN, hb, hxl⟩ := hrel
      have hszr := hb.size
      have hnl := HnL.out
      by_cases hlt : i < L.length
      · obtain ⟨l, Hl⟩ : ∃ l, Hid (L[i]? = some l) := ⟨_, Lib.hid (List.getElem?_eq_getElem hlt)⟩
        obtain ⟨off, rfl, hcell⟩ := HCells.out wr hxr i l Hl.out
        have hll := HLl.out i l Hl.out
        have HN2 := HLn.out
        have HA := Lib.hid (vline_any p w.heap.size x d l wr hd HN.out.2.2.1 hxl hszr (by omega))
        have hltn : i < nL := by omega
        clear hnl
        cases hs : stepL d l with
        | error k =>
          rw [hs] at HA
          have hk0 : ((k : Int) != 0) = true := by rw [bne_iff_ne]; have := step_err hs; omega
          have HE := Lib.hid (HNP.out.trans (newAt_err HN.out Hl.out hs))
          clear hs
          go_wp2_with fail
          refine HA.out.mono ?_
          rintro e w6 ⟨hk, hae⟩
          have he : e = .returned (.int .i64 k) := hae
          subst he
          go_wp2
          go_ret3
          exact ⟨RNewEnd.err HE.out, hb.trans hk.1⟩
        | ok d' =>
          rw [hs] at HA
          have HN' := Lib.hid (newAt_next HN.out Hl.out hs)
          clear hs
          go_wp2_with fail
          refine HA.out.mono ?_
          rintro e w6 ⟨hk, rfl, hd'⟩
          go_wp2
          go_roundw
          case rel => exact ⟨i + 1, d', by go_num, by omega, hd', (hk.2 hxl).trans hxr, HN', hb.trans hk.1, Nat.lt_of_lt_of_le hxl hk.1.size⟩
          case measure => simp [intOf]; omega
      · have HE := Lib.hid (HNP.out.trans (newAt_end HN.out hlt))
        have HC := Lib.hid (vrest_any p w.heap.size x d wr hd HN.out.2.2.1 HN.out.2.2.2 hszr)
        go_wp2_with (go_at_call 41; refine HC.out.mono ?_; rintro e w5 ⟨rfl, hda, hb5⟩)
        go_ret3
        exact ⟨RNewEnd.fine HE.out hda, hb.trans hb5⟩
end Go.Proofs.YtejccafolfeabaaGreatDoor

