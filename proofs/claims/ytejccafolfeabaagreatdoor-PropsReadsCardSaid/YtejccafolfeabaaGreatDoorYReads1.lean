/-
  Several texts in one, in their build order: WitP, Post, VP, Vb, Qt, Vd, PrintS, Qd, Vi, Vj, Vk, Vl, Qe, Va, Vc, Ve, Vf, Vg, Vh, Qb.
-/
import Derived.Test.YtejccafolfeabaaGreatDoorCards
import Derived.Test.YtejccafolfeabaaGreatDoorTie
import Derived.PinnedBridge
import Derived.Lib.LaidIn
import Derived.Lib.LaidU8
import Derived.Lib.LaidTab
import Derived.Lib.LaidCaseMet
import Derived.Shelf.Vars
import Derived.Deep.DeepHandedRow
import Derived.Deep.DeepWitnessRowRef
import Derived.ProofKit
import Derived.Carry
import Derived.ChangeSame
import Derived.OpenShut
import Derived.Deep.SlicePairs
import Derived.SizedLaws
import Derived.ChangeSlices
import Derived.Lib.AppendStr
import Derived.Lib.BufferRead
import Derived.Deep.RegionHeld3
import Derived.Deep.DeepMust
import Derived.RegionTactic
import Derived.BigRegion
import Derived.Test.YtejccafolfeabaaGreatDoorZ1
import Derived.Test.YtejccafolfeabaaGreatDoorZ2
import Derived.Test.YtejccafolfeabaaGreatDoorZ3
import Derived.Test.YtejccafolfeabaaGreatDoorZ4
/-
  WHAT THE LISTED VARIABLES GIVE (the tables of utf8); a world that bears them all, for the witness.
-/
namespace Go.Proofs.YtejccafolfeabaaGreatDoor
open Go.ChangeShapes Go.WideShapes Go.ChangeAt Go.RowKit Go.Lib Go.Shelf

theorem ownK : ownKnob Tryz.prog.godebug = none := by kernel_rfl
set_option maxRecDepth 100000 in
theorem accept_eq : (Rows.laid_unicode_utf8_acceptRanges : DataW Unit) = acceptData := by kernel_rfl
theorem tabs_of_laid {W : World} (hL : laidMetH Tryz.prog Rows.propsNamesRow.laid W) : Tabs W := by
  have h1 := laidMet.reads hL (.tail _ (.tail _ (.tail _ (.tail _ (.tail _ (.tail _ (.tail _ (.head _))))))))
  have h2 := laidMet.reads hL (.tail _ (.tail _ (.tail _ (.head _))))
  rw [show (Rows.laid_unicode_utf8_first : DataW Unit) = firstData from Pinned.utf8First_eq] at h1
  rw [accept_eq] at h2
  exact utf8Tabs_of_reads (ρ := Tryz.lays260_ren) { Tryz.lays260 with } ⟨by kernel_rfl, by kernel_rfl, by kernel_rfl, by kernel_rfl, by kernel_rfl, by kernel_rfl, by kernel_rfl⟩ h1 h2

def deB64 : List Int := [0, 1, 56, 2, 57, 49, 28, 3, 61, 58, 42, 50, 38, 29, 17, 4, 62, 47, 59, 36, 45, 43, 51, 22, 53, 39, 33, 30, 24, 18, 12, 5, 63, 55, 48, 27, 60, 41, 37, 16, 46, 35, 44, 21, 52, 32, 23, 11, 54, 26, 40, 15, 34, 20, 31, 10, 25, 14, 19, 9, 13, 8, 7, 6]
theorem tabB_of_laid {W : World} (hL : laidMetH Tryz.prog Rows.propsNamesRow.laid W) : TabB W := by
  have h := laidMet.reads hL (.tail _ (.head _))
  rw [show (Rows.laid_math_bits_deBruijn64tab : DataW Unit) = tabData .u8 deB64 by kernel_rfl] at h
  obtain ⟨g, t, cs, fuel, p, hg, hty, hvar, hd⟩ := h
  obtain rfl := Option.some.inj ((show Tryz.prog.globalNamed "math/bits.deBruijn64tab" = some 6 by kernel_rfl).symm.trans hg)
  obtain rfl := Option.some.inj ((show (Tryz.prog.globals[(6 : Nat)]?).map (·.type) = some 252 by kernel_rfl).symm.trans hty)
  have hcs := cells_of_tab Tryz.underlying252 Tryz.underlying5 (by kernel_rfl) (by kernel_rfl) hd
  have := World.var?_cell hg hvar 15
  unfold TabB
  rw [this, ← Array.getElem?_toList, hcs]; rfl

theorem env_of_laid {W : World} (hL : laidMetH Tryz.prog Rows.propsNamesRow.laid W) (hS : W.ShapedOpen Tryz.prog) : Env W :=
  ⟨tabs_of_laid hL, cell_of_shapedOpen_int hS (g := 0) (t := 3) (zero := #[.int .i64 0]) (of_decide_eq_true (by kernel_rfl)) (by kernel_rfl) rfl (by kernel_rfl) (by kernel_rfl) Tryz.underlying3, tabB_of_laid hL⟩

/-- THE WITNESS's WORLD: the settled one with three blocks more (the two errors' structs; the rows of the table of cases); the variables hold what their initialisers lay. -/
noncomputable def laidWorld (os : Os) : World :=
  let N := (World.settled Tryz.prog os).heap.size
  let w0 := World.holding Tryz.prog os ⟨#[.cells #[.string ⟨#[118, 97, 108, 117, 101, 32, 111, 117, 116, 32, 111, 102, 32, 114, 97, 110, 103, 101]⟩] 259, .cells #[.string ⟨#[105, 110, 118, 97, 108, 105, 100, 32, 115, 121, 110, 116, 97, 120]⟩] 259, .cells Lib.caseCells5 250], #[], []⟩
  let put (h : Array Obj) (g : Nat) (cs : Array Value) : Array Obj := h.modify g fun
    | .cells _ t frozen => .cells cs t frozen
    | o => o
  let h1 := put w0.heap 1 (firstTab.map fun z => Value.int .u8 z).toArray
  let h2 := put h1 2 ((List.range 16).flatMap fun i => [Value.int .u8 (accLo i), Value.int .u8 (accHi i)]).toArray
  let h3 := put h2 7 #[.iface 257 (.pointer (some ⟨N + 1, 0, none⟩))]
  let h4 := put h3 8 #[.iface 257 (.pointer (some ⟨N, 0, none⟩))]
  let h5 := put h4 4 ((List.range 20).map fun i => Value.int .u64 (10 ^ i : Nat)).toArray
  let h6 := put h5 5 ([0, 1, 28, 2, 29, 14, 24, 3, 30, 22, 20, 15, 25, 17, 4, 8, 31, 27, 13, 23, 21, 19, 16, 7, 26, 12, 18, 6, 11, 5, 10, 9].map fun (z : Int) => Value.int .u8 z).toArray
  let h7 := put h6 6 ([0, 1, 56, 2, 57, 49, 28, 3, 61, 58, 42, 50, 38, 29, 17, 4, 62, 47, 59, 36, 45, 43, 51, 22, 53, 39, 33, 30, 24, 18, 12, 5, 63, 55, 48, 27, 60, 41, 37, 16, 46, 35, 44, 21, 52, 32, 23, 11, 54, 26, 40, 15, 34, 20, 31, 10, 25, 14, 19, 9, 13, 8, 7, 6].map fun (z : Int) => Value.int .u8 z).toArray
  let h8 := put h7 3 #[.slice (some ⟨N + 2, 0, none⟩) Lib.caseA.size Lib.caseA.size]
  { w0 with heap := h8 }
/-- A world in which the variable holds a slice of the table's cells reads as the table: the table's own row of 'laid'. -/
theorem caseIn {P : Program} {ρ : Go.Shelf.Ren} (L : Go.Proofs.Lays.n274 P ρ) (t206 : P.underlying (ρ.t 206) = some (.array 3 (ρ.t 21))) (X : CaseExtra P ρ) {w : World} (R : Nat) (t : TypeId) (hgR : ρ.g 13 ≠ R)
    (hvar : w.heap[ρ.g 13]? = some (.cells #[.slice (some ⟨R, 0, none⟩) caseA.size caseA.size] (ρ.t 162) (0, 0)))
    (hblk : w.heap[R]? = some (.cells caseCells5 t (0, 0))) : LaidIn P w [("unicode.CaseRanges", caseData)] [ρ.g 13, R] := by
  have hT := caseTab_of_block hblk
  have hread := case_slice_reads L t206 X hT caseA_wf (by rw [caseA_size]; unfold maxLen; omega) 0
  rw [case_rows_data] at hread
  have hv : w.var? P "unicode.CaseRanges" = some #[.slice (some ⟨R, 0, none⟩) caseA.size caseA.size] := by simp [World.var?, X.n13, hvar]
  refine LaidIn.one _ X.n13 X.y13 hv hread ?_ (fun b off hp => ?_) (fun x hx => ?_)
  · refine List.nodup_append.2 ⟨row_nodup _ _, row_nodup _ _, ?_⟩
    intro a ha b hb e
    obtain ⟨i, _, rfl⟩ := MemPlace.mem_row.1 ha
    obtain ⟨j, _, rfl⟩ := MemPlace.mem_row.1 hb
    simp at e
    exact hgR e.1
  · rcases List.mem_append.1 hp with hp | hp
    · obtain ⟨i, hi, e⟩ := MemPlace.mem_row.1 hp
      cases e
      refine ⟨⟨_, _, hvar⟩, fun u v hc => ?_⟩
      obtain rfl : i = 0 := by simp at hi; omega
      rw [Lib.cell_of_heap hvar] at hc
      simp at hc
    · obtain ⟨i, hi, e⟩ := MemPlace.mem_row.1 hp
      cases e
      refine ⟨⟨_, _, hblk⟩, fun u v hc => ?_⟩
      obtain ⟨c0, c1, c2, c3, c4⟩ := hT (i / 5) (by omega)
      have hi5 : 0 + i = 0 + i / 5 * 5 + i % 5 := by omega
      simp only at hc
      rw [hi5] at hc
      have hm : i % 5 < 5 := Nat.mod_lt _ (by omega)
      match hk : i % 5, hm with
      | 0, _ => rw [hk, Nat.add_zero, c0] at hc; cases hc
      | 1, _ => rw [hk, c1] at hc; cases hc
      | 2, _ => rw [hk, c2] at hc; cases hc
      | 3, _ => rw [hk, c3] at hc; cases hc
      | 4, _ => rw [hk, c4] at hc; cases hc
  · rcases List.mem_append.1 hx with hx | hx
    · obtain ⟨i, _, rfl⟩ := MemPlace.mem_row.1 hx; simp [MemPlace.block]
    · obtain ⟨i, _, rfl⟩ := MemPlace.mem_row.1 hx; simp [MemPlace.block]
/-- The numbers of the table's types here, and its variable's. -/
def renC : Go.Shelf.Ren := ⟨Tryz.lays274_ren.f, Tryz.lays274_ren.t, fun _ => 3⟩
set_option maxRecDepth 1000000 in
theorem laid_in (os : Os) (args : Array Value) : LaidIn Tryz.prog ((laidWorld os).forCall (fun _ _ => 0) ⟨#[], args, []⟩).memory Rows.propsNamesRow.laid ([2, 7, 8, 4, 5, 6, (World.settled Tryz.prog default).heap.size, (World.settled Tryz.prog default).heap.size + 1] ++ ([3, (World.settled Tryz.prog default).heap.size + 2] ++ [1])) := by
  have h1 : LaidIn Tryz.prog ((laidWorld os).forCall (fun _ _ => 0) ⟨#[], args, []⟩).memory (Rows.propsNamesRow.laid.take 6) [2, 7, 8, 4, 5, 6, (World.settled Tryz.prog default).heap.size, (World.settled Tryz.prog default).heap.size + 1] :=
    LaidIn.of_run _ 8 (by kernel_rfl) (by kernel_rfl) (by kernel_rfl) (by kernel_rfl)
  have h2 : LaidIn Tryz.prog ((laidWorld os).forCall (fun _ _ => 0) ⟨#[], args, []⟩).memory [("unicode.CaseRanges", Rows.laid_unicode_CaseRanges)] [3, (World.settled Tryz.prog default).heap.size + 2] := by
    rw [show (Rows.laid_unicode_CaseRanges : DataW Unit) = caseData from Pinned.caseRanges_eq]
    exact caseIn (ρ := renC) { Tryz.lays274 with } (by kernel_rfl) ⟨by kernel_rfl, by kernel_rfl, by kernel_rfl, by kernel_rfl, by kernel_rfl, by kernel_rfl⟩ ((World.settled Tryz.prog default).heap.size + 2) 250 (of_decide_eq_true (by kernel_rfl)) (by kernel_rfl) (by kernel_rfl)
  have h3 : LaidIn Tryz.prog ((laidWorld os).forCall (fun _ _ => 0) ⟨#[], args, []⟩).memory [("unicode/utf8.first", Rows.laid_unicode_utf8_first)] [1] :=
    LaidIn.of_run _ 8 (by kernel_rfl) (by kernel_rfl) (by kernel_rfl) (by kernel_rfl)
  exact LaidIn.append h1 (LaidIn.append h2 h3 (by kernel_rfl)) (by kernel_rfl)
end Go.Proofs.YtejccafolfeabaaGreatDoor

/-
  THE LAST STEP OF A LAW's ROW: it answers true, and nothing that lay has turned; an argument that is a list of ranges, opened. No walk.
-/
namespace Go.Proofs.YtejccafolfeabaaGreatDoor
open Go.ChangeShapes Go.WideShapes Go.ChangeAt Go.RowKit

section
variable {H : Type} {enc : TypeId × Value → H} {P : Program}
theorem trodAll_stays {W W' : World} {sp' : Nat → Bool} (hl : laidOutB P = true) : ∀ {ts : List TypeId} {vs : List Value} {ds : List (DataW H)} {ps : List MemPlace}, (∀ t ∈ ts, P.readableRec t = true ∧ t < P.types.size) →
    DataW.TrodAll enc P W 0 (fun _ => true) true ts vs ds ps → (∀ p ∈ ps, W.sameAt W' p) → (∀ p ∈ ps, sp' p.block = true) → DataW.TrodAll enc P W' 0 sp' true ts vs ds ps
  | [], vs, ds, ps, _, h, _, _ => by
    obtain ⟨rfl, rfl, rfl⟩ := trodAll_nil h
    exact trodAll_mk0
  | t :: ts, vs, ds, ps, ht, h, h1, h2 => by
    obtain ⟨v, vs', d, ds', p, q, rfl, rfl, rfl, h0, hr⟩ := trodAll_cons h
    exact trodAll_cons_mk (WideElems.Trod_stays hl (ht t (by simp)).1 (ht t (by simp)).2 h0 (fun x hx => h1 x (by simp [hx])) (fun x hx => h2 x (by simp [hx])))
      (trodAll_stays hl (fun u hu => ht u (by simp [hu])) hr (fun x hx => h1 x (by simp [hx])) (fun x hx => h2 x (by simp [hx])))
/-- A law that answers true and turns nothing that lay. -/
theorem post_law {f : Func} {s : ChangeSpec} {apart fresh handsOn again : Bool} {W W' : World} {args : Array Value} {ds gs : List (DataW H)} {before : List MemPlace} {tb : TypeId}
    (hl : laidOutB P = true) (hps : (f.params.toList.all fun t => P.readableRec t && decide (t < P.types.size)) = true) (hres : f.resultTypes = #[tb]) (htb : P.underlying tb = some .bool) (hv : s.vars = [])
    (hfn : ∀ (gs' : List (DataW H)), gs' = [] → s.fn H (ds ++ gs') = { results := [.lit (.bool true)], args := ds })
    (hW : DataW.Whole enc P f.params.toList s.vars apart W args.toList ds gs before) (hb : Below W.heap.size W W') :
    s.post enc P f apart fresh handsOn again W args (.bool true) W' := by
  have hlt : ∀ p ∈ before, p.block < W.heap.size := fun p hp => hW.lt p hp
  have hW' := hW
  obtain ⟨p, q, hA, hV, rfl, hfz, hnd⟩ := hW'
  have hA' : DataW.TrodAll enc P W 0 (fun _ => true) true f.params.toList args.toList ds p := hA
  rw [hv] at hV
  obtain ⟨rfl, rfl⟩ := trodVars_none hV
  have hpr : ∀ t ∈ f.params.toList, P.readableRec t = true ∧ t < P.types.size := fun t ht => by
    have := List.all_eq_true.1 hps t ht
    simpa using this
  have hres' : ∀ (b : Nat) (sp : Nat → Bool) (hd : Bool), DataW.TrodAll enc P W' b sp hd f.resultTypes.toList ((Value.bool true).resultList f.resultTypes.size) (s.fn H (ds ++ [])).results [] := fun b sp hd => by
    rw [hres, hfn [] rfl]
    exact trodAll_cons_mk (shut_bool htb _) trodAll_mk0
  have hargs : ∀ sp : Nat → Bool, (∀ x ∈ p ++ [], sp x.block = true) → DataW.TrodAll enc P W' 0 sp true f.params.toList args.toList (s.fn H (ds ++ [])).args p := fun sp hsp => by
    rw [hfn [] rfl]
    exact trodAll_stays hl hpr hA' (fun x hx => hb.same (hlt x (by simp [hx]))) (fun x hx => hsp x (by simp [hx]))
  have hvars : ∀ sp : Nat → Bool, DataW.TrodVars enc P W' sp s.vars (s.fn H (ds ++ [])).vars [] := fun sp => by
    rw [hv, hfn [] rfl]
    exact rfl
  have hold : ∀ x ∈ p ++ [], (fun b => decide (b < W.heap.size)) x.block = true := fun x hx => by simpa using hlt x hx
  refine ⟨ds, [], p ++ [], [], p, [], hW, hres' _ _ _, hargs _ hold, hvars _, World.keptBut_mono (fun x hx => ⟨hx, ?_⟩) (hb.frame (· ∈ p ++ [])), fun _ => ?_⟩
  · simpa using hx
  · refine ⟨?_, _, _, ([] ++ p) ++ [], ⟨[] ++ p, [], trodAll_append (hargs _ (fun _ _ => rfl)) (hres' _ _ _), hvars _, rfl, ?_, ?_⟩, ?_⟩
    · exact ok_one hres rfl (okWide_bool_mk htb _)
    · intro b off hp
      have hin : MemPlace.cell b off ∈ p ++ [] := by simpa using hp
      rw [hb.frozen (hlt _ hin)]
      exact hfz b off hin
    · intro ha
      simpa using hnd ha
    · intro x hx _
      simpa using hx
end

theorem cellsR : Tryz.prog.cellsOf 80 = 2 := by kernel_rfl
theorem cellsI32 : Tryz.prog.cellsOf 21 = 1 := by kernel_rfl
set_option maxRecDepth 100000 in
/-- An argument that is a list of ranges. -/
theorem open_ranges {H : Type} {enc : TypeId × Value → H} {W : World} {r : Reach} {b0 : Nat} {v : Value} {d : DataW H} {p : List MemPlace} (hv : Value.okWide Tryz.prog W r b0 37 v) (hd : DataW.Trod enc Tryz.prog W 0 (fun _ => true) true 37 v d p) :
    ∃ (A : Option Addr) (n c : Nat) (l : List (Int × Int)), v = .slice A n c ∧ Rd W 2 A (l.map encR) ∧ l.length = n ∧ n ≤ maxLen ∧ (n = 0 ∨ ∃ el sp, d = .slice el sp ∧ el.length = n) ∧ ∀ x ∈ l, (-2147483648 ≤ x.1 ∧ x.1 ≤ 2147483647) ∧ (-2147483648 ≤ x.2 ∧ x.2 ≤ 2147483647) := by
  obtain ⟨A, n, c, rfl⟩ := okWide_slice Tryz.underlying37 hv
  obtain ⟨fuel, hf⟩ := hd
  rcases Go.Deep.open_slice_pairs Tryz.underlying37 Tryz.underlying80 cellsR rfl rfl cellsI32 cellsI32 hf with ⟨hc, _⟩ | ⟨a, len, cap, m, k, V0, V1, D0, D1, P0, P1, hc, _, hl, hm, hmm, hxd, hx⟩
  · simp [Value.cells] at hc
    obtain ⟨rfl, rfl, rfl⟩ := hc
    exact ⟨none, 0, 0, [], rfl, Rd.nil_ _ _ _, rfl, by unfold maxLen; omega, Or.inl rfl, by simp⟩
  · simp [Value.cells] at hc
    obtain ⟨rfl, rfl, rfl⟩ := hc
    have hmn : m = c := by simpa using hmm
    have key : ∀ i, i < n → ∃ lo hi : Int, W.cell? (a.add (i * 2)) = some (.int .i32 lo) ∧ W.cell? (a.add (i * 2 + 1)) = some (.int .i32 hi) ∧ (-2147483648 ≤ lo ∧ lo ≤ 2147483647) ∧ (-2147483648 ≤ hi ∧ hi ≤ 2147483647) := by
      intro i hi
      obtain ⟨h0, h1, h2, h3⟩ := hx i (by omega)
      obtain ⟨lo, e0, _, w0⟩ := DataW.trod_int Tryz.underlying21 h2
      obtain ⟨hi', e1, _, w1⟩ := DataW.trod_int Tryz.underlying21 h3
      simp at e0 e1
      rw [e0] at h0; rw [e1] at h1
      exact ⟨lo, hi', h0, h1, bounds_i32 w0, bounds_i32 w1⟩
    obtain ⟨f, hf2⟩ : ∃ f : Nat → Int × Int, ∀ i, i < n → W.cell? (a.add (i * 2)) = some (.int .i32 (f i).1) ∧ W.cell? (a.add (i * 2 + 1)) = some (.int .i32 (f i).2) ∧ (-2147483648 ≤ (f i).1 ∧ (f i).1 ≤ 2147483647) ∧ (-2147483648 ≤ (f i).2 ∧ (f i).2 ≤ 2147483647) :=
      ⟨fun i => if h : i < n then (Classical.choose (key i h), Classical.choose (Classical.choose_spec (key i h))) else (0, 0), fun i hi => by
        simp only [dif_pos hi]
        exact Classical.choose_spec (Classical.choose_spec (key i hi))⟩
    clear key hx
    refine ⟨some a, n, c, (List.range n).map f, rfl, ?_, by simp, by omega, Or.inr ⟨_, _, congrArg Prod.fst hxd, by simp⟩, ?_⟩
    · intro hne
      have hn0 : 0 < n := by
        rcases Nat.eq_zero_or_pos n with h | h
        · subst h; simp at hne
        · exact h
      obtain ⟨b, off, spot⟩ := a
      have hsp : spot = none := by
        have h0 := (hf2 0 hn0).1
        simpa [Addr.add] using World.cell?_spot h0
      subst hsp
      have ea : ∀ q, (⟨b, off, none⟩ : Addr).add q = ⟨b, off + q, none⟩ := fun q => by
        unfold Addr.add; split
        · rename_i hq; subst hq; rfl
        · rfl
      refine ⟨b, off, rfl, fun i j x u hi hj => ?_⟩
      have hin : i < n := by
        have := (List.getElem?_eq_some_iff.1 hi).1
        simpa using this
      have hxe : encR (f i) = x := by
        simp [hin] at hi; exact hi
      subst hxe
      obtain ⟨h0, h1, _⟩ := hf2 i hin
      rw [ea] at h0 h1
      match j, hj with
      | 0, hj => simp [encR] at hj; subst hj; simpa using h0
      | 1, hj => simp [encR] at hj; subst hj; simpa [Nat.add_assoc] using h1
    · intro x hx'
      obtain ⟨i, hi, rfl⟩ := List.mem_map.1 hx'
      have := hf2 i (List.mem_range.1 hi)
      exact ⟨this.2.2.1, this.2.2.2⟩
/-- A list of ranges that the reach holds is no longer than 2^44. -/
theorem sized_ranges {H : Type} {ts : List TypeId} {ds : List (DataW H)} (h : (DataW.weightsEach Tryz.prog ts ds).all (· ≤ reachBytes) = true) {j : Nat} {d : DataW H} {n : Nat} (ht : ts[j]? = some 37) (hd : ds[j]? = some d)
    (hn : n = 0 ∨ ∃ el sp, d = .slice el sp ∧ el.length = n) : n ≤ 17592186044416 := by
  rcases hn with rfl | ⟨el, sp, rfl, rfl⟩
  · omega
  · have h1 := sized_slice h ht hd Tryz.underlying37
    rw [show Tryz.prog.bytesOf 80 = 8 by kernel_rfl] at h1
    have h2 := reachBytes_lt
    simp only [Nat.reducePow] at h2
    omega
set_option maxRecDepth 100000 in
/-- An argument that is a list of runes. -/
theorem open_runes {H : Type} {enc : TypeId × Value → H} {W : World} {r : Reach} {b0 : Nat} {v : Value} {d : DataW H} {p : List MemPlace} (hv : Value.okWide Tryz.prog W r b0 24 v) (hd : DataW.Trod enc Tryz.prog W 0 (fun _ => true) true 24 v d p) :
    ∃ (A : Option Addr) (n c : Nat) (q : List Int), v = .slice A n c ∧ Rd W 1 A (q.map fun r => [.int .i32 r]) ∧ q.length = n ∧ n ≤ maxLen := by
  obtain ⟨A, n, c, rfl⟩ := okWide_slice Tryz.underlying24 hv
  obtain ⟨fuel, hf⟩ := hd
  rcases Go.ChangeShapes.open_ints Tryz.underlying24 Tryz.underlying21 cellsI32 hf with ⟨hc, _⟩ | ⟨a, len, cap, zs, hc, _, hl, hm, hzl, _, hx, _⟩
  · simp [Value.cells] at hc
    obtain ⟨rfl, rfl, rfl⟩ := hc
    exact ⟨none, 0, 0, [], rfl, Rd.nil_ _ _ _, rfl, by unfold maxLen; omega⟩
  · simp [Value.cells] at hc
    obtain ⟨rfl, rfl, rfl⟩ := hc
    have hzc : zs.length = c := by simpa using hzl
    refine ⟨some a, n, c, zs.take n, rfl, ?_, by simp; omega, by omega⟩
    intro hne
    have hn0 : 0 < n := by
      rcases Nat.eq_zero_or_pos n with h | h
      · subst h; simp at hne
      · exact h
    obtain ⟨b, off, spot⟩ := a
    have hsp : spot = none := by
      have h0 := hx 0 (by omega)
      simpa [Addr.add] using World.cell?_spot h0
    subst hsp
    have ea : ∀ q, (⟨b, off, none⟩ : Addr).add q = ⟨b, off + q, none⟩ := fun q => by
      unfold Addr.add; split
      · rename_i hq; subst hq; rfl
      · rfl
    refine ⟨b, off, rfl, fun i j x u hi hj => ?_⟩
    have hin : i < n := by
      have := (List.getElem?_eq_some_iff.1 hi).1
      simp at this; omega
    have hxe : [Value.int .i32 (zs.getD i 0)] = x := by
      rw [List.getElem?_map, List.getElem?_take_of_lt hin] at hi
      rw [List.getD_eq_getElem?_getD]
      rcases hz : zs[i]? with _ | z
      · rw [hz] at hi; simp at hi
      · rw [hz] at hi; simpa using hi
    subst hxe
    have h0 := hx i (by omega)
    rw [ea] at h0
    match j, hj with
    | 0, hj => simp at hj; subst hj; simpa using h0
end Go.Proofs.YtejccafolfeabaaGreatDoor

/-
  PLAIN, for the walks of kerfref04: a rune in quotes by the document's word; the scan of a line, step by step; trimmed from both ends.
-/
namespace Go.Proofs.YtejccafolfeabaaGreatDoor

theorem runeAt_app : ∀ (p l : List UInt8) (a : Nat), runeAt (bytesOf (p ++ l)) (p.length + a) = runeAt (bytesOf l) a
  | [], l, a => by rw [List.nil_append, List.length_nil, Nat.zero_add]
  | c :: p, l, a => by rw [List.cons_append, List.length_cons, show p.length + 1 + a = (p.length + a) + 1 by omega, runeAt_sh]; exact runeAt_app p l a
theorem runeAt_drop (s : ByteArray) (a b : Nat) (h : a ≤ s.size) : runeAt s (a + b) = runeAt (bytesOf (s.data.toList.drop a)) b := by
  have h1 := runeAt_app (s.data.toList.take a) (s.data.toList.drop a) b
  rw [List.take_append_drop, bytesOf_data, List.length_take, size_data, Nat.min_eq_left h] at h1
  exact h1
/-- The document's word on a rune in quotes. -/
theorem quoted_qt (s : ByteArray) (a : Nat) (h : a ≤ s.size) : match qtL (s.data.toList.drop a) with
    | some k => (quotedP s a).2.2 = true ∧ (quotedP s a).2.1 + 2 = k
    | none => (quotedP s a).2.2 = false := by
  unfold quotedP
  cases hd : s.data.toList.drop a with
  | nil =>
    have : (rest s a).head? = none := by unfold rest; rw [hd]; rfl
    rw [if_neg (by rw [this]; simp)]; rfl
  | cons c r =>
    have h1 := runeAt_drop s a 1 h
    rw [hd] at h1
    rw [qtS_cons, ← h1]
    have h2 : (rest s a).head? = some c := by unfold rest; rw [hd]; rfl
    have h3 : (rest s (a + 1 + (runeAt s (a + 1)).2)).head? = r[(runeAt s (a + 1)).2]? := by
      unfold rest
      rw [Nat.add_assoc, ← List.drop_drop, hd, Nat.add_comm 1, List.drop_succ_cons, List.head?_drop]
    rw [h2, h3]
    by_cases hc : c = 39 ∧ (runeAt s (a + 1)).2 ≠ 0 ∧ r[(runeAt s (a + 1)).2]? = some 39
    · rw [if_pos hc, if_pos ⟨by rw [hc.1], hc.2⟩]
      exact ⟨rfl, rfl⟩
    · rw [if_neg hc, if_neg (fun k => hc ⟨by injection k.1, k.2⟩)]

def cutD (l : List UInt8) (i : Nat) (semi : Option Nat) : Nat × Option Nat := cutGo l.length l i semi
theorem cutD_fuel {f : Nat} {l : List UInt8} (i : Nat) (semi : Option Nat) (h : l.length ≤ f) : cutGo f l i semi = cutD l i semi := by
  unfold cutD
  rw [cutGo_eq f l i semi h, cutGo_eq l.length l i semi (Nat.le_refl _)]
/-- How far the scan has come. -/
def CutAt (L : List UInt8) (i : Nat) (semi : Option Nat) : Prop := i ≤ L.length ∧ cutD (L.drop i) i semi = cutD L 0 none ∧ ∀ k, semi = some k → k ≤ i
theorem cutAt_first (L : List UInt8) : CutAt L 0 none := ⟨by omega, by rw [List.drop_zero], fun k h => by cases h⟩
theorem cutAt_qt {L : List UInt8} {i k : Nat} {semi : Option Nat} (h : CutAt L i semi) (hq : qtL (L.drop i) = some k) : CutAt L (i + k) semi := by
  have hk := qtL_some hq
  rw [List.length_drop] at hk
  refine ⟨by omega, ?_, fun j hj => by have := h.2.2 j hj; omega⟩
  rw [← h.2.1]
  cases hd : L.drop i with
  | nil => rw [hd] at hq; cases hq
  | cons x r =>
    rw [hd] at hq
    unfold cutD
    rw [List.length_cons, cutGo]
    simp only [hq]
    have h2 : (x :: r).drop k = L.drop (i + k) := by rw [← hd, List.drop_drop]
    rw [h2]
    have h3 : (L.drop (i + k)).length ≤ r.length := by
      have : (L.drop i).length = r.length + 1 := by rw [hd]; rfl
      rw [List.length_drop] at this ⊢; omega
    rw [cutD_fuel (i + k) semi h3]; rfl
section
variable {L : List UInt8} {i : Nat} {semi : Option Nat} {x : UInt8} (h : CutAt L i semi) (hx : L[i]? = some x) (hq : qtL (L.drop i) = none)
include h hx hq
theorem cutAt_step : cutD L 0 none = if x = 35 then (i, semi) else if x = 59 ∧ semi = none then cutD (L.drop (i + 1)) (i + 1) (some i) else cutD (L.drop (i + 1)) (i + 1) semi := by
  rw [← h.2.1, drop_at hx]
  rw [drop_at hx] at hq
  unfold cutD
  rw [List.length_cons, cutGo]
  simp only [hq]
theorem cutAt_hash (he : x = 35) : cutD L 0 none = (i, semi) := by rw [cutAt_step h hx hq, if_pos he]
theorem cutAt_semi (he : x = 59) (hs : semi = none) : CutAt L (i + 1) (some i) :=
  ⟨(List.getElem?_eq_some_iff.1 hx).1, by rw [cutAt_step h hx hq, if_neg (by rw [he]; decide), if_pos ⟨he, hs⟩], fun k hk => by injection hk with hk; omega⟩
theorem cutAt_go (he : x ≠ 35) (hs : ¬ (x = 59 ∧ semi = none)) : CutAt L (i + 1) semi :=
  ⟨(List.getElem?_eq_some_iff.1 hx).1, by rw [cutAt_step h hx hq, if_neg he, if_neg hs], fun k hk => by have := h.2.2 k hk; omega⟩
end
theorem cutAt_end {L : List UInt8} {i : Nat} {semi : Option Nat} (h : CutAt L i semi) (hi : ¬ i < L.length) : cutD L 0 none = (L.length, semi) := by
  rw [← h.2.1, List.drop_of_length_le (by omega)]
  have : i = L.length := by have := h.1; omega
  rw [← this]; rfl
theorem cutD_is (L : List UInt8) : cutD L 0 none = (hashP L, findP 59 (L.take (hashP L))) := by
  unfold cutD
  rw [cutGo_eq L.length L 0 none (Nat.le_refl _), Nat.zero_add]
  congr 1
  cases findP 59 (L.take (hashP L)) <;> rfl

theorem ext_bytes (l : List UInt8) (a : Nat) : (bytesOf l).extract a (bytesOf l).size = bytesOf (l.drop a) := by
  apply ByteArray.ext; apply Array.toList_inj.1
  rw [rest_extract, bytesOf_list]; unfold rest; rw [bytesOf_list]
theorem ext_bytes0 (l : List UInt8) (a : Nat) : (bytesOf l).extract 0 a = bytesOf (l.take a) := by
  apply ByteArray.ext; apply Array.toList_inj.1
  rw [Lib.extract_data, bytesOf_list, bytesOf_list]; simp
theorem ext_bytes2 (l : List UInt8) (a b : Nat) : (bytesOf l).extract a b = bytesOf ((l.drop a).take (b - a)) := by
  apply ByteArray.ext; apply Array.toList_inj.1
  rw [Lib.extract_data, bytesOf_list, bytesOf_list]
theorem trim_last {l : List UInt8} {c : UInt8} (hl : l.getLast? = some c) : (blkB c = true → trimR l = trimR (l.take (l.length - 1))) ∧ (blkB c = false → trimR l = l) := by
  have hs : l = l.dropLast ++ [c] := by
    rcases List.eq_nil_or_concat l with rfl | ⟨o, y, rfl⟩
    · cases hl
    · simp at hl; subst hl; simp
  have hd : l.take (l.length - 1) = l.dropLast := by rw [List.dropLast_eq_take]
  rw [hd]
  constructor
  · intro h
    conv => lhs; rw [hs]
    exact trimR_app (by intro d hd; simp at hd; subst hd; exact h)
  · intro h
    unfold trimR
    rw [hs, List.reverse_append]
    rw [show [c].reverse ++ l.dropLast.reverse = c :: l.dropLast.reverse from rfl, dropWhile_stop h]
    simp
theorem trimR_nil : trimR [] = [] := rfl
theorem drop_blank {c : UInt8} {r : List UInt8} (h : blkB c = true) : (c :: r).dropWhile blkB = r.dropWhile blkB := by rw [List.dropWhile_cons, if_pos h]
end Go.Proofs.YtejccafolfeabaaGreatDoor

/-
  kerfref04: blank, trim, cut, walked.
-/
namespace Go.Proofs.YtejccafolfeabaaGreatDoor
open Go.RowKit Go.Maps

theorem blk_true {c : UInt8} (h : (c.toNat : Int) = 32 ∨ (c.toNat : Int) = 9) : blkB c = true := by
  have h1 : c = 32 ↔ c.toNat = 32 := u8_eq (n := 32) (by omega)
  have h2 : c = 9 ↔ c.toNat = 9 := u8_eq (n := 9) (by omega)
  simp only [blkB, Bool.or_eq_true, beq_iff_eq, h1, h2]; omega
theorem blk_false {c : UInt8} (h : ¬ ((c.toNat : Int) = 32 ∨ (c.toNat : Int) = 9)) : blkB c = false := by
  cases hb : blkB c with
  | false => rfl
  | true =>
    have h1 : c = 32 ↔ c.toNat = 32 := u8_eq (n := 32) (by omega)
    have h2 : c = 9 ↔ c.toNat = 9 := u8_eq (n := 9) (by omega)
    refine absurd ?_ h
    simp only [blkB, Bool.or_eq_true, beq_iff_eq, h1, h2] at hb; omega
theorem vblank_any (c : UInt8) (w : World) : Calls Tryz.prog 113 #[.int .u8 (c.toNat : Int)] w fun e w' => e = .returned (.bool (blkB c)) ∧ w = w' := by
  have HT := Lib.hid (@blk_true c)
  have HF := Lib.hid (@blk_false c)
  generalize (c.toNat : Int) = z at HT HF
  rcases (by omega : z = 32 ∨ z = 9 ∨ (z ≠ 32 ∧ z ≠ 9)) with h | h | ⟨h, h'⟩
  · have HV := Lib.hid (HT.out (.inl h))
    subst h
    go_enter Tryz.func113, Tryz.ntmps113
    go_wp2
    go_ret
    exact ⟨by rw [HV.out]; rfl, rfl⟩
  · have HV := Lib.hid (HT.out (.inr h))
    subst h
    go_enter Tryz.func113, Tryz.ntmps113
    go_wp2
    go_ret
    exact ⟨by rw [HV.out]; rfl, rfl⟩
  · have HV := Lib.hid (HF.out (by omega))
    have h1 : (z == 32) = false := beq_eq_false_iff_ne.2 h
    have h2 : (z == 9) = false := beq_eq_false_iff_ne.2 h'
    go_enter Tryz.func113, Tryz.ntmps113
    go_wp2
    go_ret
    exact ⟨by rw [HV.out]; rfl, rfl⟩

def strSize : Value → Nat
  | .string s => s.size
  | _ => 0
set_option maxRecDepth 100000 in
set_option maxHeartbeats 2000000 in
theorem vtrim_any (L : List UInt8) (w : World) (hL : L.length ≤ 1000000) : Calls Tryz.prog 78 #[.string (bytesOf L)] w fun e w' => e = .returned (.string (bytesOf (trimL L))) ∧ w = w' := by
  have HTE := Lib.hid (trimL_eq L)
  go_enter Tryz.func78, Tryz.ntmps78
  go_wp2
  go_loopw [0] (fun v wr => ∃ l : List UInt8, v = .string (bytesOf l) ∧ l.length ≤ L.length ∧ Hid (l.dropWhile blkB = L.dropWhile blkB) ∧ wr = w) (fun v _ => strSize v)
  case atStart => exact ⟨L, rfl, by omega, rfl, rfl⟩
  case round =>
    obtain ⟨l, rfl, hl, HD, rfl⟩ := hrel
    have hsz : (bytesOf l).size = l.length := bytesOf_size l
    by_cases hb : ∃ c r, l = c :: r ∧ blkB c = true
    · obtain ⟨c, r, rfl, hc⟩ := hb
      have h0 : 0 < (bytesOf (c :: r)).size := by rw [hsz]; simp
      have hix := index_at (bytesOf (c :: r)) 0 0 rfl h0
      have hg : (bytesOf (c :: r))[0]'h0 = c := by have := get_list h0; rw [bytesOf_list] at this; simpa using this.symm
      rw [hg] at hix
      have hgi : (((bytesOf (c :: r))[0]'h0).toNat : Int) = (c.toNat : Int) := by rw [hg]
      have HX := Lib.hid (ext_bytes (c :: r) 1)
      rw [hsz] at HX
      have hl2 : (r.length : Int) + 1 ≤ 1000000 := by simp at hl; omega
      clear hg
      go_wp2_with (go_at_call 113; refine (vblank_any c _).mono ?_; rw [hc]; rintro e w' ⟨rfl, rfl⟩)
      go_roundw
      case rel => exact ⟨r, by first | exact congrArg Value.string HX.out | (rw [← ext_bytes (c :: r) 1]; rfl), by simp at hl; omega, Lib.hid (by rw [← HD.out, drop_blank hc]), by first | rfl | trivial⟩
      case measure => simp only [strSize, ByteArray.size_extract, bytesOf_size, List.length_cons]; omega
    · have HLD : Hid (l = L.dropWhile blkB) := Lib.hid (by
        rw [← HD.out]
        cases l with
        | nil => rfl
        | cons c r =>
          have : blkB c = false := by
            cases hq : blkB c with
            | false => rfl
            | true => exact absurd ⟨c, r, rfl, hq⟩ hb
          exact (dropWhile_stop this).symm)
      have HTR : Hid (trimL L = trimR l) := Lib.hid (by rw [HTE.out, HLD.out])
      have hstop : l = [] ∨ ∃ c r, l = c :: r ∧ blkB c = false := by
        cases l with
        | nil => exact .inl rfl
        | cons c r =>
          refine .inr ⟨c, r, rfl, ?_⟩
          cases hq : blkB c with
          | false => rfl
          | true => exact absurd ⟨c, r, rfl, hq⟩ hb
      clear hb HD HLD
      rcases hstop with rfl | ⟨c, r, rfl, hc⟩
      · have HT0 : Hid (trimL L = []) := Lib.hid (by rw [HTR.out]; rfl)
        have hz0 : (bytesOf []).size = 0 := rfl
        go_wp2_with fail
        go_loopw [0] (fun v wq => v = .string (bytesOf []) ∧ wq = wr) (fun _ _ => 0)
        case atStart => exact ⟨rfl, rfl⟩
        case round =>
          obtain ⟨rfl, rfl⟩ := hrel
          go_wp2
          go_ret
          exact ⟨by rw [HT0.out]; rfl, rfl⟩
      · have h0 : 0 < (bytesOf (c :: r)).size := by rw [hsz]; simp
        have hix := index_at (bytesOf (c :: r)) 0 0 rfl h0
        have hg : (bytesOf (c :: r))[0]'h0 = c := by have := get_list h0; rw [bytesOf_list] at this; simpa using this.symm
        rw [hg] at hix
        have hgi : (((bytesOf (c :: r))[0]'h0).toNat : Int) = (c.toNat : Int) := by rw [hg]
        clear hg
        go_wp2_with (go_at_call 113; refine (vblank_any c _).mono ?_; rw [hc]; rintro e w' ⟨rfl, rfl⟩)
        go_loopw [0] (fun v wq => ∃ l : List UInt8, v = .string (bytesOf l) ∧ l.length ≤ L.length ∧ Hid (trimR l = trimL L) ∧ wq = wr) (fun v _ => strSize v)
        case atStart => exact ⟨c :: r, rfl, hl, Lib.hid HTR.out.symm, rfl⟩
        case round =>
          clear hix hgi h0
          obtain ⟨l, rfl, hl2, HD, rfl⟩ := hrel
          have hsz2 : (bytesOf l).size = l.length := bytesOf_size l
          rcases List.eq_nil_or_concat l with rfl | ⟨o, y, rfl⟩
          · have HT0 : Hid (trimL L = []) := Lib.hid (by rw [← HD.out]; rfl)
            have hz0 : (bytesOf []).size = 0 := rfl
            go_wp2
            go_ret
            exact ⟨by rw [HT0.out]; rfl, rfl⟩
          · rw [List.concat_eq_append] at *
            have hlast : (o ++ [y]).getLast? = some y := by simp
            have hol : (o ++ [y]).length = o.length + 1 := by simp
            rw [hol] at hsz2 hl2
            have hp : o.length < (bytesOf (o ++ [y])).size := by omega
            have hix := index_at (bytesOf (o ++ [y])) ((o.length : Int) + 1 - 1) o.length (by omega) hp
            have hix2 := index_at (bytesOf (o ++ [y])) (o.length : Int) o.length rfl hp
            have hg : (bytesOf (o ++ [y]))[o.length]'hp = y := by have := get_list hp; rw [bytesOf_list] at this; simpa using this.symm
            rw [hg] at hix hix2
            have hgi : (((bytesOf (o ++ [y]))[o.length]'hp).toNat : Int) = (y.toNat : Int) := by rw [hg]
            clear hg
            cases hy : blkB y with
            | true =>
              have HX : Hid ((bytesOf (o ++ [y])).extract 0 o.length = bytesOf o) := Lib.hid (by rw [ext_bytes0]; simp)
              have HD' : Hid (trimR o = trimL L) := Lib.hid (by rw [← HD.out, (trim_last hlast).1 hy, hol, Nat.add_sub_cancel]; simp)
              go_wp2_with (go_at_call 113; refine (vblank_any y _).mono ?_; rw [hy]; rintro e w' ⟨rfl, rfl⟩)
              go_roundw
              case rel => exact ⟨o, congrArg Value.string HX.out, by omega, HD', by first | rfl | trivial⟩
              case measure => simp only [strSize, ByteArray.size_extract, bytesOf_size, List.length_append, List.length_singleton]; omega
            | false =>
              have HD' : Hid (trimL L = o ++ [y]) := Lib.hid (by rw [← HD.out, (trim_last hlast).2 hy])
              go_wp2_with (go_at_call 113; refine (vblank_any y _).mono ?_; rw [hy]; rintro e w' ⟨rfl, rfl⟩)
              go_ret
              exact ⟨by rw [HD'.out]; rfl, rfl⟩
end Go.Proofs.YtejccafolfeabaaGreatDoor

/-
  kerflaw04: texts, ints, ranged, walked (two lists that are the same).
-/
namespace Go.Proofs.YtejccafolfeabaaGreatDoor
open Go.RowKit Go.Maps

theorem Rd.atS {w : World} {A : Option Addr} {l : List (List UInt8)} {k : Nat} {x : List UInt8} (h : Rd w 1 A (l.map encNm)) (hk : l[k]? = some x) : ∃ b off, A = some ⟨b, off, none⟩ ∧ w.cell? ⟨b, off + k, none⟩ = some (.string (bytesOf x)) := by
  obtain ⟨b, off, rfl, hc⟩ := h (by intro e; cases l with | nil => simp at hk | cons _ _ => simp at e)
  have h0 := hc k 0 (encNm x) (.string (bytesOf x)) (by simp [hk]) rfl
  exact ⟨b, off, rfl, by simpa using h0⟩
set_option maxRecDepth 100000 in
set_option maxHeartbeats 1000000 in
theorem qtexts_any (A B : Option Addr) (n c e : Nat) (l : List (List UInt8)) (w : World) (hA : Rd w 1 A (l.map encNm)) (hB : Rd w 1 B (l.map encNm)) (hl : l.length = n) (hn : n ≤ 4000000) :
    Calls Tryz.prog 24 #[.slice A n c, .slice B n e] w fun e w' => e = .returned (.bool true) ∧ ∃ k, w' = w.drewN k := by
  have Hl := Lib.hid hl
  clear hl
  go_enter Tryz.func24, Tryz.ntmps24
  go_wp2
  go_loopw [5] (fun v wr => ∃ i k : Nat, v = .int .i64 i ∧ i ≤ n ∧ wr = w.drewN k) (fun v _ => n - (intOf v).toNat)
  case atStart => exact ⟨0, 0, rfl, by omega, rfl⟩
  case round =>
    obtain ⟨i, k, rfl, hi, rfl⟩ := hrel
    by_cases hlt : i < n
    · obtain ⟨x, Hx⟩ : ∃ x, Hid (l[i]? = some x) := ⟨_, Lib.hid (List.getElem?_eq_getElem (show i < l.length by have := Hl.out; omega))⟩
      obtain ⟨b, off, rfl, h1⟩ := hA.atS Hx.out
      obtain ⟨b', off', rfl, h2⟩ := hB.atS Hx.out
      go_wp2_with fail
      go_quiet (fail)
      go_wp2
      go_roundw
      case rel => exact ⟨i + 1, _, by go_num, by omega, by first | rfl | exact World.drewN_drewN⟩
      case measure => simp [intOf]; omega
    · go_wp2
      go_ret
      exact ⟨rfl, k, rfl⟩

theorem newP_code {t : List UInt8} {x : Int × Nat} (h : newP t = .error x) : 1 ≤ x.1 := by
  unfold newP at h
  split at h
  · injection h with h; subst h; decide
  · have key : ∀ (L : List (List UInt8)) (d : DbP) (i : Nat), linesGo d L i = .error x → 1 ≤ x.1 := by
      intro L
      induction L with
      | nil => intro d i h; cases h
      | cons a r ih =>
        intro d i h
        unfold linesGo at h
        split at h
        · rename_i e he
          injection h with h; subst h
          simp only
          unfold stepL at he
          split at he
          · cases he
          · injection he with he; omega
          · have := addL_err he; omega
        · exact ih _ _ h
    exact key _ _ _ h
end Go.Proofs.YtejccafolfeabaaGreatDoor

/-
  kerfref04: Class, meet, walked.
-/
namespace Go.Proofs.YtejccafolfeabaaGreatDoor
open Go.RowKit Go.Maps

/-- The document's database, its parts. -/
structure RfX (w : World) (base p x : Nat) (An : Option Addr) (nn cn : Nat) (As : Option Addr) (ns cs : Nat) (xs : List (Option Addr × Nat × Nat)) (N : List (List UInt8)) (S : List (List (Int × Int))) : Prop where
  blk : Blk w p 75 #[.slice An nn cn, .slice As ns cs]
  pb : base ≤ p
  hn : Own w base 9 1 An nn cn (N.map encNm)
  hs : Own w base 37 1 As ns cs (xs.map encSl)
  hx : Sets w base xs S
  xp : x ≠ p
  xn : ∀ a, An = some a → a.block ≠ x
  xs_ : ∀ a, As = some a → a.block ≠ x
structure RfB (w : World) (base p x : Nat) (N : List (List UInt8)) (S : List (List (Int × Int))) : Prop where
  ex : ∃ (An : Option Addr) (nn cn : Nat) (As : Option Addr) (ns cs : Nat) (xs : List (Option Addr × Nat × Nat)), RfX w base p x An nn cn As ns cs xs N S
section
variable {w w' : World} {base p x : Nat} {An : Option Addr} {nn cn : Nat} {As : Option Addr} {ns cs : Nat} {xs : List (Option Addr × Nat × Nat)} {N : List (List UInt8)} {S : List (List (Int × Int))}
theorem RfX.below (h : RfX w base p x An nn cn As ns cs xs N S) (hb : Below w.heap.size w w') : RfX w' base p x An nn cn As ns cs xs N S := ⟨h.blk.below hb, h.pb, h.hn.below hb, h.hs.below hb, h.hx.below hb, h.xp, h.xn, h.xs_⟩
theorem RfB.below (h : RfB w base p x N S) (hb : Below w.heap.size w w') : RfB w' base p x N S := by
  obtain ⟨a1, a2, a3, a4, a5, a6, a7, h⟩ := h.ex
  exact ⟨a1, a2, a3, a4, a5, a6, a7, h.below hb⟩
theorem RfX.lenN (h : RfX w base p x An nn cn As ns cs xs N S) : N.length = nn := by simpa using h.hn.len
theorem RfX.lenS (h : RfX w base p x An nn cn As ns cs xs N S) : xs.length = ns ∧ S.length = ns := by
  have := h.hs.len; rw [List.length_map] at this
  exact ⟨this, by rw [← h.hx.len]; exact this⟩
theorem types_rf : (9 : TypeId) ≠ 37 ∧ (9 : TypeId) ≠ 75 ∧ (37 : TypeId) ≠ 75 ∧ (9 : TypeId) ≠ 80 ∧ (37 : TypeId) ≠ 80 ∧ (75 : TypeId) ≠ 80 := by decide
/-- A name more. -/
theorem RfX.named {w3 : World} {o : Obj} {n : List UInt8} {A3 : Option Addr} {c3 : Nat} (h : RfX w base p x An nn cn As ns cs xs N S) (ho3 : Own w3 base 9 1 A3 (nn + 1) c3 ((N ++ [n]).map encNm))
    (hg3 : (w.alloc o).grownBy w3 (An.map (·.block))) (hA3 : A3 = An ∨ A3 = some ⟨(w.alloc o).heap.size, 0, none⟩) (hx : x < w.heap.size) (hB : base ≤ w.heap.size) :
    Blk w3 p 75 #[.slice An nn cn, .slice As ns cs] ∧ RfX (w3.setCell ⟨p, 0, none⟩ (.slice A3 (nn + 1) c3)) base p x A3 (nn + 1) c3 As ns cs xs (N ++ [n]) S ∧
      KX base x w (w3.setCell ⟨p, 0, none⟩ (.slice A3 (nn + 1) c3)) ∧ KeepR base w (w3.setCell ⟨p, 0, none⟩ (.slice A3 (nn + 1) c3)) := by
  obtain ⟨t1, t2, t3, t4, t5, t6⟩ := types_rf
  have hg := grown_alloc hg3
  have b3 : Blk w3 p 75 #[.slice An nn cn, .slice As ns cs] := h.blk.grown hg (fun e => by cases An with | none => cases e | some a => simp at e; exact h.hn.off h.blk t2 a rfl e.symm)
  have s3 : Own w3 base 37 1 As ns cs (xs.map encSl) := h.hs.grown hg (fun a ha e => by cases An with | none => cases e | some b => simp at e; exact h.hn.apart h.hs t1 b a rfl ha e.symm)
  have x3 : Sets w3 base xs S := h.hx.grown hg (fun g q e => own_not_R h.hn t4 g q e)
  have hxA3 : ∀ a, A3 = some a → a.block ≠ x := fun a ha => by
    rcases hA3 with e | e
    · exact h.xn a (by rw [← e]; exact ha)
    · rw [e] at ha; injection ha with ha; subst ha; simp; omega
  refine ⟨b3, ⟨?_, h.pb, ?_, ?_, ?_, h.xp, hxA3, h.xs_⟩, ?_, ?_⟩
  · have := b3.set_ 0 (.slice A3 (nn + 1) c3)
    simpa using this
  · exact ho3.setCell (fun a ha => ho3.off b3 t2 a ha) _
  · exact s3.setCell (fun a ha => s3.off b3 t3 a ha) _
  · exact x3.setCell (blk_not_R b3 t6) _
  · refine (KX.grown hg hB (fun k hk => ?_)).trans (KX.setCell w3 h.pb (fun e => h.xp e.symm) _)
    cases An with
    | none => cases hk
    | some a => simp at hk; subst hk; exact ⟨(h.hn.lt a rfl).1, h.xn a rfl⟩
  · exact (KeepR.grown hg (fun g q e => own_not_R h.hn t4 g q e)).trans (KeepR.setCell (blk_not_R b3 t6) _)
/-- A set more: none yet. -/
theorem RfX.moreSet {w3 : World} {o : Obj} {A3 : Option Addr} {c3 : Nat} (h : RfX w base p x An nn cn As ns cs xs N S) (ho3 : Own w3 base 37 1 A3 (ns + 1) c3 ((xs ++ [(none, 0, 0)]).map encSl))
    (hg3 : (w.alloc o).grownBy w3 (As.map (·.block))) (hA3 : A3 = As ∨ A3 = some ⟨(w.alloc o).heap.size, 0, none⟩) (hx : x < w.heap.size) (hB : base ≤ w.heap.size) :
    Blk w3 p 75 #[.slice An nn cn, .slice As ns cs] ∧ RfX (w3.setCell ⟨p, 1, none⟩ (.slice A3 (ns + 1) c3)) base p x An nn cn A3 (ns + 1) c3 (xs ++ [(none, 0, 0)]) N (S ++ [[]]) ∧
      KX base x w (w3.setCell ⟨p, 1, none⟩ (.slice A3 (ns + 1) c3)) ∧ KeepR base w (w3.setCell ⟨p, 1, none⟩ (.slice A3 (ns + 1) c3)) := by
  obtain ⟨t1, t2, t3, t4, t5, t6⟩ := types_rf
  have hg := grown_alloc hg3
  have b3 : Blk w3 p 75 #[.slice An nn cn, .slice As ns cs] := h.blk.grown hg (fun e => by cases As with | none => cases e | some a => simp at e; exact h.hs.off h.blk t3 a rfl e.symm)
  have n3 : Own w3 base 9 1 An nn cn (N.map encNm) := h.hn.grown hg (fun a ha e => by cases As with | none => cases e | some b => simp at e; exact h.hn.apart h.hs t1 a b ha rfl e)
  have x3 : Sets w3 base xs S := h.hx.grown hg (fun g q e => own_not_R h.hs t5 g q e)
  have hxA3 : ∀ a, A3 = some a → a.block ≠ x := fun a ha => by
    rcases hA3 with e | e
    · exact h.xs_ a (by rw [← e]; exact ha)
    · rw [e] at ha; injection ha with ha; subst ha; simp; omega
  refine ⟨b3, ⟨?_, h.pb, ?_, ?_, ?_, h.xp, h.xn, hxA3⟩, ?_, ?_⟩
  · have := b3.set_ 1 (.slice A3 (ns + 1) c3)
    simpa using this
  · exact n3.setCell (fun a ha => n3.off b3 t2 a ha) _
  · exact ho3.setCell (fun a ha => ho3.off b3 t3 a ha) _
  · exact (x3.setCell (blk_not_R b3 t6) _).snoc (Own.nil_ _ _ _ _)
  · refine (KX.grown hg hB (fun k hk => ?_)).trans (KX.setCell w3 h.pb (fun e => h.xp e.symm) _)
    cases As with
    | none => cases hk
    | some a => simp at hk; subst hk; exact ⟨(h.hs.lt a rfl).1, h.xs_ a rfl⟩
  · exact (KeepR.grown hg (fun g q e => own_not_R h.hs t5 g q e)).trans (KeepR.setCell (blk_not_R b3 t6) _)
/-- A set stored. -/
theorem RfX.storeSet {g k b' : Nat} {y : Option Addr × Nat × Nat} {l : List (Int × Int)} (h : RfX w base p x An nn cn (some ⟨g, 0, none⟩) ns cs xs N S) (hk : k < ns) (ho : Own w b' 80 2 y.1 y.2.1 y.2.2 (l.map encR)) (hb : base ≤ b') :
    RfX (w.setCell ⟨g, k, none⟩ (.slice y.1 y.2.1 y.2.2)) base p x An nn cn (some ⟨g, 0, none⟩) ns cs (xs.set k y) N (S.set k l) ∧ KX base x w (w.setCell ⟨g, k, none⟩ (.slice y.1 y.2.1 y.2.2)) := by
  obtain ⟨t1, t2, t3, t4, t5, t6⟩ := types_rf
  have hgp : g ≠ p := h.hs.off h.blk t3 _ rfl
  refine ⟨⟨h.blk.far (p := ⟨g, k, none⟩) (Ne.symm hgp) _, h.pb, ?_, ?_, ?_, h.xp, h.xn, h.xs_⟩, KX.setCell w (q := ⟨g, k, none⟩) (h.hs.lt _ rfl).1 (h.xs_ ⟨g, 0, none⟩ rfl) _⟩
  · exact h.hn.setCell (p := ⟨g, k, none⟩) (fun a ha e => h.hn.apart h.hs t1 a ⟨g, 0, none⟩ ha rfl e) _
  · exact h.hs.storedSl (by rw [h.lenS.1]; exact hk) y
  · refine Sets.set_ (h.hx.setCell (q := ⟨g, k, none⟩) (fun r => own_not_R h.hs t5 g r rfl) _) ?_
    exact (ho.setCell (p := ⟨g, k, none⟩) (fun a ha e => ho.apart h.hs (Ne.symm t5) a ⟨g, 0, none⟩ ha rfl e) _).more hb
end

theorem bytes_inj {a b : List UInt8} : bytesOf a = bytesOf b ↔ a = b := ⟨fun h => by rw [← bytesOf_list a, ← bytesOf_list b, h], fun h => by rw [h]⟩
/-- Behind how many names a name stands. -/
theorem idx_step {N : List (List UInt8)} {n y : List UInt8} {i : Nat} (h : n ∉ N.take i) (hy : N[i]? = some y) : (y = n → N.idxOf? n = some i) ∧ (y ≠ n → n ∉ N.take (i + 1)) := by
  constructor
  · rintro rfl
    rw [List.idxOf?, List.findIdx?_eq_some_iff_getElem]
    obtain ⟨hlt, e⟩ := List.getElem?_eq_some_iff.1 hy
    refine ⟨hlt, by simp [e], fun j hj => ?_⟩
    simp only [Bool.not_eq_true, beq_eq_false_iff_ne]
    intro hjy
    exact h (List.mem_take_iff_getElem.2 ⟨j, by omega, by simpa using hjy⟩)
  · intro hne hm
    rw [List.take_add_one, hy] at hm
    simp at hm
    rcases hm with hm | hm
    · exact h hm
    · exact hne hm.symm
theorem idx_none {N : List (List UInt8)} {n : List UInt8} (h : n ∉ N) : N.idxOf? n = none := by
  rw [List.idxOf?, List.findIdx?_eq_none_iff]
  intro x hx
  simp only [beq_eq_false_iff_ne]
  rintro rfl; exact h hx
set_option maxRecDepth 100000 in
set_option maxHeartbeats 1000000 in
theorem vClass_any (base p x : Nat) (N : List (List UInt8)) (S : List (List (Int × Int))) (n : List UInt8) (w : World) (h : RfB w base p x N S) (hN : N.length ≤ 1000000) :
    Calls Tryz.prog 64 #[.pointer (some ⟨p, 0, none⟩), .string (bytesOf n)] w fun e w' => e = .returned (.tuple #[.int .i64 (((N.idxOf? n).getD 0 : Nat) : Int), .bool (N.idxOf? n).isSome]) ∧ w = w' := by
  obtain ⟨An, nn, cn, As, ns, cs, xs, hX⟩ := h.ex
  have hl := hX.lenN
  have Hl := Lib.hid hl
  have hrd := hX.hn.rd (by omega)
  have c0 := hX.blk.cell 0
  simp only [List.getElem?_toArray, List.getElem?_cons_zero] at c0
  have hnn : nn ≤ 1000000 := by omega
  clear hl h
  go_enter Tryz.func64, Tryz.ntmps64
  go_wp2
  go_loopw [6] (fun v wr => ∃ i : Nat, v = .int .i64 i ∧ i ≤ nn ∧ Hid (n ∉ N.take i) ∧ wr = w) (fun v _ => nn - (intOf v).toNat)
  case atStart => exact ⟨0, rfl, by omega, by simp [Hid], rfl⟩
  case round =>
    obtain ⟨i, rfl, hi, HN, rfl⟩ := hrel
    by_cases hlt : i < nn
    · obtain ⟨y, Hy⟩ : ∃ y, Hid (N[i]? = some y) := ⟨_, Lib.hid (List.getElem?_eq_getElem (show i < N.length by have := Hl.out; omega))⟩
      obtain ⟨b, off, rfl, hc⟩ := hrd.atS Hy.out
      have HI := Lib.hid (idx_step HN.out Hy.out)
      by_cases hyn : y = n
      · have HE := Lib.hid (HI.out.1 hyn)
        subst hyn
        go_wp2
        go_ret2
        exact ⟨by rw [HE.out]; rfl, rfl⟩
      · have HE := Lib.hid (HI.out.2 hyn)
        have e1 : ((bytesOf y).toList == (bytesOf n).toList) = false := by rw [ByteArray.toList_eq, ByteArray.toList_eq, bytesOf_list, bytesOf_list]; exact beq_eq_false_iff_ne.2 hyn
        have e3 : decide (bytesOf y = bytesOf n) = false := decide_eq_false (fun k => hyn (bytes_inj.1 k))
        clear hyn
        go_wp2
        go_roundw
        case rel => exact ⟨i + 1, by go_num, by omega, HE, by first | rfl | trivial⟩
        case measure => simp [intOf]; omega
    · have HE := Lib.hid (idx_none (N := N) (n := n) (by have := HN.out; rwa [List.take_of_length_le (by have := Hl.out; omega)] at this))
      go_wp2
      go_ret2
      exact ⟨by rw [HE.out]; rfl, rfl⟩
end Go.Proofs.YtejccafolfeabaaGreatDoor

/-
  kerfref02.Print: the spelling of a set.
-/
namespace Go.Proofs.YtejccafolfeabaaGreatDoor
open Go.RowKit

theorem infoU8' : (Tryz.prog.info? 5).map (fun i => (i.zero, i.size, i.bytes)) = some (some (.int .u8 0), 1, 1) := by kernel_rfl
/-- Bytes that are the call's own. -/
def OwnB (w : World) (B : Nat) (v : Value) (l : List UInt8) : Prop := w.ownsRow B 5 1 v l.length (Lib.byteCells l)
theorem OwnB.below {w w' : World} {B : Nat} {v : Value} {l : List UInt8} (h : OwnB w B v l) (hb : Below w.heap.size w w') : OwnB w' B v l := by
  unfold OwnB at h ⊢
  refine ⟨h.1, ?_⟩
  rcases h.2 with h0 | ⟨g, cap, cur, hv, hg, hh, r⟩
  · exact .inl h0
  · exact .inr ⟨g, cap, cur, hv, hg, (hb.block g (Array.getElem?_eq_some_iff.1 hh).1).trans hh, r⟩
theorem OwnB.convert {w : World} {B : Nat} {v : Value} {l : List UInt8} (h : OwnB w B v l) : (convert 66 9 v).run Tryz.prog w = .ok (.string ⟨l.toArray⟩) w := by
  unfold OwnB at h
  rcases h.2 with ⟨rfl, h0⟩ | ⟨g, cap, cur, rfl, _, hg, _, _, _, ht⟩
  · have : l = [] := List.length_eq_zero_iff.1 h0
    subst this
    exact Lib.run_convert_nil_bytes w 66 9 5 0 Tryz.underlying66 Tryz.underlying5 Tryz.underlying9
  · exact run_convert_bytes_back w 66 9 5 ⟨g, 0, none⟩ cap l Tryz.underlying66 Tryz.underlying5 Tryz.underlying9 (Lib.bytes_of_row hg (by simpa using ht))
theorem OwnB.lt {w : World} {B : Nat} {v : Value} {l : List UInt8} (h : OwnB w B v l) : ∀ k, v.ownBlock = some k → B ≤ k := fun k hk => (World.ownsRow.lt h k hk).1
theorem OwnB.str {w : World} {B : Nat} {v : Value} {l : List UInt8} {s : ByteArray} {n : Nat} (h : w.ownsRow B 5 1 v (n + s.size) (Lib.byteCells l ++ Lib.strCells s)) (hn : n = l.length) : OwnB w B v (l ++ s.data.toList) := by
  unfold OwnB
  subst hn
  have e1 : Lib.byteCells (l ++ s.data.toList) = Lib.byteCells l ++ Lib.strCells s := by simp [Lib.byteCells, Lib.strCells]
  rw [e1, List.length_append, Array.length_toList]
  exact h
theorem OwnB.byte {w : World} {B : Nat} {v : Value} {l : List UInt8} {c : UInt8} {n : Nat} (h : w.ownsRow B 5 1 v (n + 1) (Lib.byteCells l ++ [.int .u8 c.toNat])) (hn : n = l.length) : OwnB w B v (l ++ [c]) := by
  unfold OwnB
  subst hn
  have e1 : Lib.byteCells (l ++ [c]) = Lib.byteCells l ++ [.int .u8 c.toNat] := by simp [Lib.byteCells]
  rw [e1, List.length_append]
  exact h
theorem OwnB.form {w : World} {B : Nat} {v : Value} {l : List UInt8} (h : OwnB w B v l) : ∃ A n c, v = .slice A n c := by
  unfold OwnB at h
  rcases h.2 with ⟨rfl, _⟩ | ⟨g, cap, cur, rfl, _⟩
  · exact ⟨_, _, _, rfl⟩
  · exact ⟨_, _, _, rfl⟩
theorem cell_grown {w w' : World} {o : Obj} {B b i : Nat} {v u : Value} {l : List UInt8} (hu : w.cell? ⟨b, i, none⟩ = some u) (ho : OwnB (w.alloc o) B v l) (hg : (w.alloc o).grownBy w' v.ownBlock) (hb : b < B) : w'.cell? ⟨b, i, none⟩ = some u := by
  have h1 : (w.alloc o).cell? ⟨b, i, none⟩ = some u := cell_keep hu ((Below.refl _ _).alloc (Nat.le_refl _) o)
  exact (World.cell?_of_block (hg.block b (cell_lt h1) (fun e => by have := ho.lt b e.symm; omega))).trans h1
theorem cell_grownS {w w' : World} {B b i : Nat} {v u : Value} {l : List UInt8} (hu : w.cell? ⟨b, i, none⟩ = some u) (ho : OwnB w B v l) (hg : w.grownBy w' v.ownBlock) (hb : b < B) : w'.cell? ⟨b, i, none⟩ = some u :=
  (World.cell?_of_block (hg.block b (cell_lt hu) (fun e => by have := ho.lt b e.symm; omega))).trans hu
theorem below_ownB {B : Nat} {a w w' : World} {v : Value} {l : List UInt8} (h : Below B a w) (ho : OwnB w B v l) (hg : w.grownBy w' v.ownBlock) (hB : B ≤ w.heap.size) : Below B a w' := h.grown hg hB fun k hk => ho.lt k hk
theorem cell_newB (w : World) {t : TypeId} (x : Value) : ∀ j u, [x][j]? = some u → (w.alloc (.cells #[x] t)).cell? ((⟨w.heap.size, 0, none⟩ : Addr).add j) = some u := fun j u h => by
  match j, h with
  | 0, h =>
    obtain rfl : x = u := by simpa using h
    exact (Blk.new w t #[x]).cell 0

set_option maxRecDepth 100000 in
set_option maxHeartbeats 2000000 in
theorem sPrint_any (A : Option Addr) (n c : Nat) (l : List (Int × Int)) (w : World) (hA : Rd w 2 A (l.map encR)) (hl : l.length = n) (hn : n ≤ 4000000) :
    Calls Tryz.prog 84 #[.slice A n c] w fun e w' => e = .returned (.string ⟨(printP l).toArray⟩) ∧ Below w.heap.size w w' := by
  obtain ⟨i0, hi0, hz0, hz1, hz2⟩ := info_parts infoU8'
  have Hl := Lib.hid hl
  have HNF := Lib.hid (normR_NF l)
  clear hl
  go_enter Tryz.func84, Tryz.ntmps84
  go_wp2_with fail
  refine (sNorm_any A n c l _ hA Hl.out hn).mono ?_
  rintro e w1 ⟨A1, n1, c1, rfl, ho1, hb1⟩
  have Hl1 := Lib.hid (show (normR l).length = n1 by simpa using ho1.len)
  have hn1 : n1 ≤ 557056 := by have := HNF.out.len; have := Hl1.out; omega
  have hA1 := ho1.rd (by decide)
  clear ho1
  go_wp2_with fail
  go_loopw [4, 5] (fun v4 v5 wr => ∃ (k : Nat) (A2 : Option Addr) (n2 c2 : Nat), v4 = .slice A2 n2 c2 ∧ v5 = .int .i64 k ∧ k ≤ n1 ∧ OwnB wr w1.heap.size (.slice A2 n2 c2) (printL ((normR l).take k)) ∧ Below w1.heap.size w1 wr) (fun _ v5 _ => n1 - (intOf v5).toNat)
  case atStart => exact ⟨0, none, 0, 0, rfl, rfl, by omega, ⟨rfl, .inl ⟨rfl, rfl⟩⟩, Below.refl _ _⟩
  case round =>
    obtain ⟨k, A2, n2, c2, rfl, rfl, hk, ho, hb⟩ := hrel
    have hplen := printL_len ((normR l).take k)
    have hl2 : (printL ((normR l).take k)).length ≤ 20000000 := by rw [List.length_take] at hplen; have := Hl1.out; omega
    have hsz := hb.size
    clear hplen
    by_cases hlt : k < n1
    · obtain ⟨bb, off, lo, hi, rfl, Hx, d0, d1⟩ := hA1.atR (k := k) (by have := Hl1.out; omega)
      have hbb : bb < w1.heap.size := cell_lt d0
      replace d0 := cell_keep d0 hb
      replace d1 := cell_keep d1 hb
      have hxb := HNF.out.2 _ (List.mem_of_getElem? Hx.out)
      have hxl := Nf_le HNF.out.1 _ (List.mem_of_getElem? Hx.out)
      simp only at hxb hxl
      obtain ⟨a, rfl⟩ : ∃ a : Nat, lo = (a : Int) := ⟨lo.toNat, by omega⟩
      obtain ⟨b, rfl⟩ : ∃ b : Nat, hi = (b : Int) := ⟨hi.toNat, by omega⟩
      have ha : a ≤ 1114111 := by omega
      have hb9 : b ≤ 1114111 := by omega
      obtain ⟨Xa, hXa⟩ : ∃ X : ByteArray, (⟨(hexS a).toArray⟩ : ByteArray) = X := ⟨_, rfl⟩
      obtain ⟨Xb, hXb⟩ : ∃ X : ByteArray, (⟨(hexS b).toArray⟩ : ByteArray) = X := ⟨_, rfl⟩
      have hza : Xa.size ≤ 6 := by rw [← hXa, ← size_data]; simp [hexS_len]; exact (hexK_bd a).2
      have hzb : Xb.size ≤ 6 := by rw [← hXb, ← size_data]; simp [hexS_len]; exact (hexK_bd b).2
      have Ha1 := Lib.hid (show ((⟨#[85, 43]⟩ : ByteArray) ++ Xa).data.toList = spellP (a : Int) by rw [← hXa]; simp [spellP])
      have Hb1 := Lib.hid (show ((⟨#[45, 85, 43]⟩ : ByteArray) ++ Xb).data.toList = 45 :: spellP (b : Int) by rw [← hXb]; simp [spellP])
      have hsa : ((⟨#[85, 43]⟩ : ByteArray) ++ Xa).size ≤ 8 := by rw [ByteArray.size_append]; show 2 + _ ≤ _; omega
      have hsb : ((⟨#[45, 85, 43]⟩ : ByteArray) ++ Xb).size ≤ 9 := by rw [ByteArray.size_append]; show 3 + _ ≤ _; omega
      have HXa := Lib.hid hXa
      have HXb := Lib.hid hXb
      have HT := Lib.hid (show printL ((normR l).take (k + 1)) = printL ((normR l).take k) ++ (if (normR l).take k = [] then [] else [32]) ++ itemT ((a : Int), (b : Int)) by
        rw [List.take_add_one, Hx.out, Option.toList_some, printL_snoc])
      clear hXa hXb
      by_cases he : b = a
      · subst he
        have Hit := Lib.hid (show itemT ((b : Int), (b : Int)) = spellP (b : Int) by unfold itemT; rw [if_pos rfl, List.append_nil])
        by_cases hk0 : k = 0
        · skip
          obtain rfl : k = 0 := hk0
          have HT2 : Hid (printL ((normR l).take (0 + 1)) = printL ((normR l).take 0) ++ [] ++ itemT ((b : Int), (b : Int))) := Lib.hid (by have h := HT.out; rw [if_pos List.take_zero] at h; exact h)
          simp only [Nat.zero_mul, Nat.add_zero] at d0 d1
          clear HT
          go_wp2_with fail
          have ho' : OwnB wr w1.heap.size (.slice A2 n2 c2) (printL ((normR l).take 0) ++ []) := by rw [List.append_nil]; exact ho
          clear ho
          have hl3 : (printL ((normR l).take 0) ++ []).length ≤ 20000001 := by rw [List.append_nil]; omega
          refine (sHex_any b wr (by omega)).mono ?_
          rintro e w9 ⟨rfl, rfl⟩
          rw [HXa.out]
          go_wp2_with (at_builtin; go_must (refine Lib.wpList_append_own_string _ rfl (.tmp 19) (.tmp 26) 66 9 rfl w1.heap.size 5 i0 Tryz.underlying66 Tryz.underlying9 hi0 hz0 hz1 hz2 _ _ _ rfl ho' (⟨#[85, 43]⟩ ++ Xa) rfl (by unfold maxLen; omega) (by omega) (by omega) ?_); intro v3 w3 ho3 hg3 _; have ho4 := OwnB.str ho3 rfl; have hb4 := below_ownB hb ho' hg3 (by omega); have f0 := cell_grownS d0 ho' hg3 hbb; have f1 := cell_grownS d1 ho' hg3 hbb; obtain ⟨A5, n5, c5, rfl⟩ := ho4.form; clear ho3 hg3)
          rw [Ha1.out] at ho4
          clear d0 d1 ho' hb
          go_quiet (fail)
          go_wp2
          have ho6 : OwnB _ w1.heap.size (.slice A5 n5 c5) (printL ((normR l).take (0 + 1))) := cast (by rw [HT2.out, Hit.out]) ho4
          go_roundw
          case rel => exact ⟨0 + 1, A5, n5, c5, rfl, by go_num, by omega, ho6, below_drewN hb4 _⟩
          case measure => simp [intOf]; omega
        · skip
          have htk : ¬ (normR l).take k = [] := by
            intro e
            have h9 : ((normR l).take k).length = 0 := by rw [e]; rfl
            rw [List.length_take] at h9; have := Hl1.out; omega
          have HT2 := Lib.hid HT.out
          rw [if_neg htk] at HT2
          have hk0' : 0 < k := by omega
          clear HT htk
          have hoA : OwnB (wr.alloc (.cells #[.int .u8 32] 5)) w1.heap.size (.slice A2 n2 c2) (printL ((normR l).take k)) := ho.below ((Below.refl _ _).alloc (Nat.le_refl _) _)
          go_wp2_with (at_builtin; go_must (refine wpList_append_own _ rfl (.tmp 16) (.tmp 17) 66 rfl w1.heap.size 5 i0 _ 1 1 Tryz.underlying66 hi0 hz0 hz1 hz2 rfl (by decide) _ _ _ rfl hoA ⟨wr.heap.size, 0, none⟩ 1 1 [.int .u8 (32 : UInt8).toNat] rfl rfl (cell_newB wr _) (by simp [Value.oneCell']) (by unfold maxLen; omega) (by omega) (by simp; omega) ?_); intro v2 w2 ho2 hg2 _; have ho' := OwnB.byte ho2 rfl; have hb' := below_ownB (hb.alloc (by omega) _) hoA hg2 (by simp; omega); have e0 := cell_grown d0 hoA hg2 hbb; have e1 := cell_grown d1 hoA hg2 hbb; obtain ⟨A4, n4, c4, rfl⟩ := ho'.form; clear ho2 hg2)
          have hl3 : (printL ((normR l).take k) ++ [32]).length ≤ 20000001 := by rw [List.length_append]; simp; omega
          have hs2 := hb'.size
          clear d0 d1 hoA ho hb
          refine (sHex_any b w2 (by omega)).mono ?_
          rintro e w9 ⟨rfl, rfl⟩
          rw [HXa.out]
          go_wp2_with (at_builtin; go_must (refine Lib.wpList_append_own_string _ rfl (.tmp 19) (.tmp 26) 66 9 rfl w1.heap.size 5 i0 Tryz.underlying66 Tryz.underlying9 hi0 hz0 hz1 hz2 _ _ _ rfl ho' (⟨#[85, 43]⟩ ++ Xa) rfl (by unfold maxLen; omega) (by omega) (by omega) ?_); intro v3 w3 ho3 hg3 _; have ho4 := OwnB.str ho3 rfl; have hb4 := below_ownB hb' ho' hg3 (by omega); have f0 := cell_grownS e0 ho' hg3 hbb; have f1 := cell_grownS e1 ho' hg3 hbb; obtain ⟨A5, n5, c5, rfl⟩ := ho4.form; clear ho3 hg3)
          rw [Ha1.out] at ho4
          clear e0 e1 ho' hb'
          go_quiet (fail)
          go_wp2
          have ho6 : OwnB _ w1.heap.size (.slice A5 n5 c5) (printL ((normR l).take (k + 1))) := cast (by rw [HT2.out, Hit.out]) ho4
          go_roundw
          case rel => exact ⟨k + 1, A5, n5, c5, rfl, by go_num, by omega, ho6, below_drewN hb4 _⟩
          case measure => simp [intOf]; omega
      · have Hit := Lib.hid (show itemT ((a : Int), (b : Int)) = spellP (a : Int) ++ 45 :: spellP (b : Int) by unfold itemT; rw [if_neg (fun e => he (by simp only at e; omega))])
        have hab : ((b : Int) != (a : Int)) = true := by rw [bne_iff_ne]; omega
        clear he
        by_cases hk0 : k = 0
        · skip
          obtain rfl : k = 0 := hk0
          have HT2 : Hid (printL ((normR l).take (0 + 1)) = printL ((normR l).take 0) ++ [] ++ itemT ((a : Int), (b : Int))) := Lib.hid (by have h := HT.out; rw [if_pos List.take_zero] at h; exact h)
          simp only [Nat.zero_mul, Nat.add_zero] at d0 d1
          clear HT
          go_wp2_with fail
          have ho' : OwnB wr w1.heap.size (.slice A2 n2 c2) (printL ((normR l).take 0) ++ []) := by rw [List.append_nil]; exact ho
          clear ho
          have hl3 : (printL ((normR l).take 0) ++ []).length ≤ 20000001 := by rw [List.append_nil]; omega
          refine (sHex_any a wr (by omega)).mono ?_
          rintro e w9 ⟨rfl, rfl⟩
          rw [HXa.out]
          go_wp2_with (at_builtin; go_must (refine Lib.wpList_append_own_string _ rfl (.tmp 19) (.tmp 26) 66 9 rfl w1.heap.size 5 i0 Tryz.underlying66 Tryz.underlying9 hi0 hz0 hz1 hz2 _ _ _ rfl ho' (⟨#[85, 43]⟩ ++ Xa) rfl (by unfold maxLen; omega) (by omega) (by omega) ?_); intro v3 w3 ho3 hg3 _; have ho4 := OwnB.str ho3 rfl; have hb4 := below_ownB hb ho' hg3 (by omega); have f0 := cell_grownS d0 ho' hg3 hbb; have f1 := cell_grownS d1 ho' hg3 hbb; obtain ⟨A5, n5, c5, rfl⟩ := ho4.form; clear ho3 hg3)
          rw [Ha1.out] at ho4
          clear d0 d1 ho' hb
          go_quiet (fail)
          have hl5 : (printL ((normR l).take 0) ++ [] ++ spellP (a : Int)).length ≤ 20000010 := by have := spellP_len (a : Int); rw [List.length_append]; omega
          have hs5 := hb4.size
          go_wp2_with fail
          refine (sHex_any b _ hb9).mono ?_
          rintro e w9 ⟨rfl, rfl⟩
          rw [HXb.out]
          go_wp2_with (at_builtin; go_must (refine Lib.wpList_append_own_string _ rfl (.tmp 39) (.tmp 46) 66 9 rfl w1.heap.size 5 i0 Tryz.underlying66 Tryz.underlying9 hi0 hz0 hz1 hz2 _ _ _ rfl ho4 (⟨#[45, 85, 43]⟩ ++ Xb) rfl (by unfold maxLen; omega) (by omega) hs5 ?_); intro v6 w6 ho6 hg6 _; have ho7 := OwnB.str ho6 rfl; have hb7 := below_ownB (below_drewN hb4 _) ho4 hg6 hs5; obtain ⟨A7, n7, c7, rfl⟩ := ho7.form; clear ho6 hg6)
          rw [Hb1.out] at ho7
          have ho8 : OwnB w6 w1.heap.size (.slice A7 n7 c7) (printL ((normR l).take (0 + 1))) := cast (by simp only [HT2.out, Hit.out, List.append_assoc]) ho7
          go_roundw
          case rel => exact ⟨0 + 1, A7, n7, c7, rfl, by go_num, by omega, ho8, hb7⟩
          case measure => simp [intOf]; omega
        · skip
          have htk : ¬ (normR l).take k = [] := by
            intro e
            have h9 : ((normR l).take k).length = 0 := by rw [e]; rfl
            rw [List.length_take] at h9; have := Hl1.out; omega
          have HT2 := Lib.hid HT.out
          rw [if_neg htk] at HT2
          have hk0' : 0 < k := by omega
          clear HT htk
          have hoA : OwnB (wr.alloc (.cells #[.int .u8 32] 5)) w1.heap.size (.slice A2 n2 c2) (printL ((normR l).take k)) := ho.below ((Below.refl _ _).alloc (Nat.le_refl _) _)
          go_wp2_with (at_builtin; go_must (refine wpList_append_own _ rfl (.tmp 16) (.tmp 17) 66 rfl w1.heap.size 5 i0 _ 1 1 Tryz.underlying66 hi0 hz0 hz1 hz2 rfl (by decide) _ _ _ rfl hoA ⟨wr.heap.size, 0, none⟩ 1 1 [.int .u8 (32 : UInt8).toNat] rfl rfl (cell_newB wr _) (by simp [Value.oneCell']) (by unfold maxLen; omega) (by omega) (by simp; omega) ?_); intro v2 w2 ho2 hg2 _; have ho' := OwnB.byte ho2 rfl; have hb' := below_ownB (hb.alloc (by omega) _) hoA hg2 (by simp; omega); have e0 := cell_grown d0 hoA hg2 hbb; have e1 := cell_grown d1 hoA hg2 hbb; obtain ⟨A4, n4, c4, rfl⟩ := ho'.form; clear ho2 hg2)
          have hl3 : (printL ((normR l).take k) ++ [32]).length ≤ 20000001 := by rw [List.length_append]; simp; omega
          have hs2 := hb'.size
          clear d0 d1 hoA ho hb
          refine (sHex_any a w2 (by omega)).mono ?_
          rintro e w9 ⟨rfl, rfl⟩
          rw [HXa.out]
          go_wp2_with (at_builtin; go_must (refine Lib.wpList_append_own_string _ rfl (.tmp 19) (.tmp 26) 66 9 rfl w1.heap.size 5 i0 Tryz.underlying66 Tryz.underlying9 hi0 hz0 hz1 hz2 _ _ _ rfl ho' (⟨#[85, 43]⟩ ++ Xa) rfl (by unfold maxLen; omega) (by omega) (by omega) ?_); intro v3 w3 ho3 hg3 _; have ho4 := OwnB.str ho3 rfl; have hb4 := below_ownB hb' ho' hg3 (by omega); have f0 := cell_grownS e0 ho' hg3 hbb; have f1 := cell_grownS e1 ho' hg3 hbb; obtain ⟨A5, n5, c5, rfl⟩ := ho4.form; clear ho3 hg3)
          rw [Ha1.out] at ho4
          clear e0 e1 ho' hb'
          go_quiet (fail)
          have hl5 : (printL ((normR l).take k) ++ [32] ++ spellP (a : Int)).length ≤ 20000010 := by have := spellP_len (a : Int); rw [List.length_append]; omega
          have hs5 := hb4.size
          go_wp2_with fail
          refine (sHex_any b _ hb9).mono ?_
          rintro e w9 ⟨rfl, rfl⟩
          rw [HXb.out]
          go_wp2_with (at_builtin; go_must (refine Lib.wpList_append_own_string _ rfl (.tmp 39) (.tmp 46) 66 9 rfl w1.heap.size 5 i0 Tryz.underlying66 Tryz.underlying9 hi0 hz0 hz1 hz2 _ _ _ rfl ho4 (⟨#[45, 85, 43]⟩ ++ Xb) rfl (by unfold maxLen; omega) (by omega) hs5 ?_); intro v6 w6 ho6 hg6 _; have ho7 := OwnB.str ho6 rfl; have hb7 := below_ownB (below_drewN hb4 _) ho4 hg6 hs5; obtain ⟨A7, n7, c7, rfl⟩ := ho7.form; clear ho6 hg6)
          rw [Hb1.out] at ho7
          have ho8 : OwnB w6 w1.heap.size (.slice A7 n7 c7) (printL ((normR l).take (k + 1))) := cast (by simp only [HT2.out, Hit.out, List.append_assoc]) ho7
          go_roundw
          case rel => exact ⟨k + 1, A7, n7, c7, rfl, by go_num, by omega, ho8, hb7⟩
          case measure => simp [intOf]; omega
    · obtain rfl : n1 = k := by omega
      have HE := Lib.hid (show (normR l).take n1 = normR l from List.take_of_length_le (by have := Hl1.out; omega))
      rw [HE.out] at ho
      have hcv := ho.convert
      go_wp2
      go_ret
      exact ⟨rfl, below_two hb1 hb⟩
end Go.Proofs.YtejccafolfeabaaGreatDoor

/-
  kerflaw04.PropsBack, walked.
-/
namespace Go.Proofs.YtejccafolfeabaaGreatDoor
open Go.RowKit Go.Maps

theorem setI_at {d : DbP} {i : Nat} {s : List (Int × Int)} (h : d.full[i]? = some s) : d.setI (i : Int) = s := by
  unfold DbP.setI
  rw [if_pos (by omega), List.getD_eq_getElem?_getD, show ((i : Int).toNat) = i by omega, h]; rfl
set_option maxRecDepth 100000 in
set_option maxHeartbeats 4000000 in
theorem qPropsBack_any (s : ByteArray) (w : World) (hE : Env w) (hs : s.size ≤ maxLen) : Calls Tryz.prog 6 #[.string s] w fun e w' => e = .returned (.bool true) ∧ Below w.heap.size w w' := by
  obtain ⟨t, rfl⟩ : ∃ t, s = bytesOf t := ⟨_, (bytesOf_data s).symm⟩
  rw [bytesOf_size] at hs
  have hsz : (bytesOf t).size = t.length := bytesOf_size t
  by_cases hbig : 12000 < t.length
  · go_enter Tryz.func6, Tryz.ntmps6
    go_wp2_with fail
    refine (qlive_any w hE).mono ?_
    rintro e w1 ⟨rfl, hb1⟩
    go_wp2
    go_ret
    exact ⟨rfl, hb1⟩
  · have HN := Lib.hid (wNew_any t w hE hs)
    cases hr : newP t with
    | error x =>
      rw [hr] at HN
      have hx := newP_code hr
      have hne : ((x.1 : Int) != 0) = true := by rw [bne_iff_ne]; omega
      clear hr
      go_enter Tryz.func6, Tryz.ntmps6
      go_wp2_with fail
      refine HN.out.mono ?_
      rintro e w1 ⟨he, hb1⟩
      have he : e = .returned (.tuple #[.pointer none, .int .i64 x.1, .int .i64 (x.2 : Int)]) := he
      subst he
      go_wp2_with (go_at_call 15; refine (qnum_any _ _).mono ?_; rintro e w' ⟨rfl, rfl⟩)
      refine (qlive_any w1 (hE.below hb1)).mono ?_
      rintro e w2 ⟨rfl, hb2⟩
      go_wp2
      go_ret
      exact ⟨rfl, below_two hb1 hb2⟩
    | ok d =>
      rw [hr] at HN
      obtain ⟨hok, hap⟩ := newP_ok hr
      have HO := Lib.hid (And.intro hok (And.intro hap (newP_named hr)))
      have HB := Lib.hid (newP_back hr (by omega))
      have hdl := newP_text hr (by omega)
      have HN2 := Lib.hid (fun W (h : Env W) => wNew_any d.text W h (by unfold maxLen; omega))
      rw [HB.out] at HN2
      obtain ⟨nn, Hnn⟩ : ∃ nn, Hid (d.names.length = nn) := ⟨_, rfl⟩
      have hn64 : nn ≤ 64 := by rw [← Hnn.out]; exact hok.few
      have HFl : Hid (d.full.length = nn) := Lib.hid (by rw [← Hnn.out]; exact full_len hok)
      clear hr hok hap hdl
      go_enter Tryz.func6, Tryz.ntmps6
      go_wp2_with fail
      refine HN.out.mono ?_
      rintro e w1 ⟨⟨p, rfl, hd⟩, hb⟩
      have hE1 := hE.below hb
      go_wp2_with (go_at_call 15; refine (qnum_any _ _).mono ?_; rintro e w' ⟨rfl, rfl⟩)
      refine (wText_any p d w1 hd HO.out.1 HO.out.2.1 HO.out.2.2 hE1.tabB).mono ?_
      rintro e w2 ⟨rfl, hb2⟩
      replace hb := below_two hb hb2
      replace hd := hd.below hb2
      replace hE1 := hE1.below hb2
      clear hb2
      go_wp2_with fail
      refine (HN2.out w2 hE1).mono ?_
      rintro e w3 ⟨⟨p2, rfl, hd2⟩, hb2⟩
      replace hb := below_two hb hb2
      replace hd := hd.below hb2
      replace hE1 := hE1.below hb2
      clear hb2
      go_wp2_with (go_at_call 15; refine (qnum_any _ _).mono ?_; rintro e w' ⟨rfl, rfl⟩)
      refine (wNames_any p2 d w3 hd2 HO.out.1).mono ?_
      rintro e w4 ⟨A4, n4, c4, rfl, ho4, hb2⟩
      obtain rfl : nn = n4 := by have := ho4.len; rw [List.length_map, Hnn.out] at this; exact this
      replace hb := below_two hb hb2
      replace hd := hd.below hb2
      replace hd2 := hd2.below hb2
      replace hE1 := hE1.below hb2
      clear hb2
      go_wp2_with fail
      refine (wNames_any p d w4 hd HO.out.1).mono ?_
      rintro e w5 ⟨A5, n5, c5, rfl, ho5, hb2⟩
      obtain rfl : nn = n5 := by have := ho5.len; rw [List.length_map, Hnn.out] at this; exact this
      replace hb := below_two hb hb2
      replace hd := hd.below hb2
      replace hd2 := hd2.below hb2
      replace hE1 := hE1.below hb2
      have hA4 := (ho4.below hb2).rd (by omega)
      have hA5 := ho5.rd (by omega)
      clear hb2
      go_wp2_with fail
      refine (qtexts_any A4 A5 nn c4 c5 d.names w5 hA4 hA5 Hnn.out (by omega)).mono ?_
      rintro e w6 ⟨rfl, k6, rfl⟩
      have hb2 : Below w5.heap.size w5 (w5.drewN k6) := below_refl_drewN w5 k6
      replace hb := below_two hb hb2
      replace hd := hd.below hb2
      replace hd2 := hd2.below hb2
      replace hE1 := hE1.below hb2
      clear hb2 hA4 hA5 ho4 ho5
      generalize w5.drewN k6 = w6 at hb hd hd2 hE1 ⊢
      go_wp2_with fail
      refine (wText_any p2 d w6 hd2 HO.out.1 HO.out.2.1 HO.out.2.2 hE1.tabB).mono ?_
      rintro e w7 ⟨rfl, hb2⟩
      replace hb := below_two hb hb2
      replace hd := hd.below hb2
      replace hd2 := hd2.below hb2
      replace hE1 := hE1.below hb2
      clear hb2
      go_wp2_with fail
      refine (wText_any p d w7 hd HO.out.1 HO.out.2.1 HO.out.2.2 hE1.tabB).mono ?_
      rintro e w8 ⟨rfl, hb2⟩
      replace hb := below_two hb hb2
      replace hd := hd.below hb2
      replace hd2 := hd2.below hb2
      replace hE1 := hE1.below hb2
      clear hb2
      go_wp2_with fail
      go_loopw [9] (fun v wr => ∃ i : Nat, v = .int .i64 i ∧ i ≤ nn ∧ Below w8.heap.size w8 wr) (fun v _ => nn - (intOf v).toNat)
      case atStart => exact ⟨0, rfl, by omega, Below.refl _ _⟩
      case round =>
        obtain ⟨i, rfl, hi, hbr⟩ := hrel
        have hdr := hd.below hbr
        have hdr2 := hd2.below hbr
        by_cases hlt : i < nn
        · obtain ⟨s, Hs⟩ : ∃ s, Hid (d.full[i]? = some s) := ⟨_, Lib.hid (List.getElem?_eq_getElem (show i < d.full.length by have := HFl.out; omega))⟩
          have HS := Lib.hid (setI_at Hs.out)
          go_wp2_with fail
          refine (wNames_any p d wr hdr HO.out.1).mono ?_
          rintro e w9 ⟨A9, n9, c9, rfl, ho9, hb9⟩
          obtain rfl : nn = n9 := by have := ho9.len; rw [List.length_map, Hnn.out] at this; exact this
          clear ho9
          go_wp2_with fail
          refine (wSet_any p2 d i w9 (hdr2.below hb9) HO.out.1 HO.out.2.1).mono ?_
          rw [HS.out]
          rintro e wa ⟨Aa, na, ca, rfl, hoa, hba⟩
          go_wp2_with fail
          refine (wSet_any p d i wa ((hdr.below hb9).below hba) HO.out.1 HO.out.2.1).mono ?_
          rw [HS.out]
          rintro e wb ⟨Ab, nb, cb, rfl, hob, hbb⟩
          have hna : s.length = na := by simpa using hoa.len
          have hnb : s.length = nb := by simpa using hob.len
          have hsm := full_small HO.out.1 HO.out.2.1 Hs.out
          go_wp2_with fail
          refine (sSame_any Aa Ab na ca nb cb s s wb ((hoa.below hbb).rd (by omega)) (hob.rd (by omega)) hna hnb (by unfold maxLen; omega) (by unfold maxLen; omega)).mono ?_
          rw [decide_eq_true rfl]
          rintro e wc ⟨rfl, kc, rfl⟩
          go_wp2
          go_roundw
          case rel => exact ⟨i + 1, by go_num, by omega, below_drewN (below_two hbr (below_two hb9 (below_two hba hbb))) kc⟩
          case measure => simp [intOf]; omega
        · go_wp2_with fail
          refine (wNames_any p d wr hdr HO.out.1).mono ?_
          rintro e w9 ⟨A9, n9, c9, rfl, ho9, hb9⟩
          obtain rfl : nn = n9 := by have := ho9.len; rw [List.length_map, Hnn.out] at this; exact this
          clear ho9
          go_wp2_with fail
          refine (qlive_any w9 ((hE1.below hbr).below hb9)).mono ?_
          rintro e wa ⟨rfl, hba⟩
          go_wp2
          go_ret
          exact ⟨rfl, below_two (below_two hb hbr) (below_two hb9 hba)⟩
end Go.Proofs.YtejccafolfeabaaGreatDoor

/-
  kerfref04: Get, Set, Text, walked.
-/
namespace Go.Proofs.YtejccafolfeabaaGreatDoor
open Go.RowKit Go.Maps

theorem getGo_hit {q : Int} {i : Nat} {s : List (Int × Int)} {S : List (List (Int × Int))} (h : hasB s q = true) : getGo q i (s :: S) = i := by unfold getGo; rw [if_pos h]
theorem getGo_miss {q : Int} {i : Nat} {s : List (Int × Int)} {S : List (List (Int × Int))} (h : hasB s q = false) : getGo q i (s :: S) = getGo q (i + 1) S := by conv => lhs; unfold getGo; rw [if_neg (by rw [h]; simp)]
theorem getGo_end {q : Int} {i : Nat} : getGo q i [] = 0 := rfl
set_option maxRecDepth 100000 in
set_option maxHeartbeats 4000000 in
theorem vGet_any (base p x : Nat) (d : DbP) (r : Int) (w : World) (h : RfB w base p x d.names d.full) (ho : d.Ok) (hap : Apart d.sets) :
    Calls Tryz.prog 46 #[.pointer (some ⟨p, 0, none⟩), .int .i32 r] w fun e w' => e = .returned (.int .i64 (d.get r : Nat)) ∧ w = w' := by
  obtain ⟨An, nn, cn, As, ns, cs, xs, hX⟩ := h.ex
  have hls := hX.lenS
  have hfl := full_len ho
  have hn0 : 0 < ns := by
    have h3 := ho.head
    cases hd : d.names with
    | nil => rw [hd] at h3; cases h3
    | cons a b => rw [hd] at hfl; simp at hfl; omega
  have hn64 : ns ≤ 64 := by have := ho.few; omega
  obtain ⟨g, rfl, _, _⟩ := hX.hs.form hn0
  have c1 := hX.blk.cell 1
  simp only [List.getElem?_toArray, List.getElem?_cons_zero, List.getElem?_cons_succ] at c1
  have HF := Lib.hid (fun i s (hi : d.full[i]? = some s) => full_small ho hap hi)
  have HG : Hid (d.get r = getGo (askR r) 1 d.full.tail) := rfl
  have Hls := Lib.hid (show d.full.length = ns from hls.2)
  have hcase : (r < 0 ∧ askR r = 65533) ∨ (¬ r < 0 ∧ 1114111 < r ∧ askR r = 65533) ∨ (¬ r < 0 ∧ ¬ 1114111 < r ∧ askR r = r) := by
    unfold askR; split <;> omega
  obtain ⟨q, hq⟩ : ∃ q, askR r = q := ⟨_, rfl⟩
  rw [hq] at HG hcase
  clear ho hap h hfl hq
  rcases hcase with ⟨h1, rfl⟩ | ⟨h1, h2, rfl⟩ | ⟨h1, h2, rfl⟩
  · go_enter Tryz.func46, Tryz.ntmps46
    go_wp2_with fail
    go_loopw [5] (fun v wr => ∃ k : Nat, v = .int .i64 (k + 1 : Nat) ∧ k + 1 ≤ ns ∧ wr = w ∧ Hid (d.get r = getGo 65533 (k + 1) (d.full.tail.drop k))) (fun v _ => ns - (intOf v).toNat)
    case atStart => exact ⟨0, rfl, by omega, rfl, by rw [List.drop_zero]; exact HG⟩
    case round =>
      obtain ⟨k, rfl, hk, rfl, HK⟩ := hrel
      by_cases hlt : k + 1 < ns
      · obtain ⟨s, Hs⟩ : ∃ s, Hid (d.full[k + 1]? = some s) := ⟨_, Lib.hid (List.getElem?_eq_getElem (show k + 1 < d.full.length by have := Hls.out; omega))⟩
        obtain ⟨⟨yA, yn, yc⟩, Hy⟩ : ∃ y, Hid (xs[k + 1]? = some y) := ⟨_, Lib.hid (List.getElem?_eq_getElem (show k + 1 < xs.length by omega))⟩
        have hoy : Own wr base 80 2 yA yn yc (s.map encR) := hX.hx.own (k + 1) (yA, yn, yc) s Hy.out Hs.out
        have hly : s.length = yn := by simpa using hoy.len
        have hsm := HF.out _ s Hs.out
        have hcell := hX.hs.cell' rfl Hy.out
        have HH := Lib.hid (sHas_any yA yn yc s 65533 wr (hoy.rd (by omega)) hly (by omega))
        have HD := Lib.hid (drop_at (show d.full.tail[k]? = some s by rw [List.getElem?_tail]; exact Hs.out))
        have hI : (k : Int) + 1 < ns := by omega
        rw [HD.out] at HK
        cases hv : hasB s 65533 with
        | true =>
          have HE := Lib.hid (HK.out.trans (getGo_hit hv))
          rw [hv] at HH
          clear hv hly
          go_wp2_with (go_at_call 21; refine HH.out.mono ?_; rintro e w2 ⟨rfl, rfl⟩)
          go_ret
          exact ⟨by rw [HE.out]; rfl, rfl⟩
        | false =>
          have HE := Lib.hid (HK.out.trans (getGo_miss hv))
          rw [hv] at HH
          clear hv hly
          go_wp2_with (go_at_call 21; refine HH.out.mono ?_; rintro e w2 ⟨rfl, rfl⟩)
          go_roundw
          case rel => exact ⟨k + 1, by go_num, by omega, by first | rfl | trivial, HE⟩
          case measure => simp [intOf]; omega
      · have HE : Hid (d.get r = 0) := Lib.hid (by rw [HK.out, List.drop_of_length_le (by rw [List.length_tail]; have := Hls.out; omega)]; rfl)
        obtain rfl : k + 1 = ns := by omega
        go_wp2
        go_ret
        exact ⟨by rw [HE.out]; rfl, rfl⟩
  · go_enter Tryz.func46, Tryz.ntmps46
    go_wp2_with fail
    go_loopw [5] (fun v wr => ∃ k : Nat, v = .int .i64 (k + 1 : Nat) ∧ k + 1 ≤ ns ∧ wr = w ∧ Hid (d.get r = getGo 65533 (k + 1) (d.full.tail.drop k))) (fun v _ => ns - (intOf v).toNat)
    case atStart => exact ⟨0, rfl, by omega, rfl, by rw [List.drop_zero]; exact HG⟩
    case round =>
      obtain ⟨k, rfl, hk, rfl, HK⟩ := hrel
      by_cases hlt : k + 1 < ns
      · obtain ⟨s, Hs⟩ : ∃ s, Hid (d.full[k + 1]? = some s) := ⟨_, Lib.hid (List.getElem?_eq_getElem (show k + 1 < d.full.length by have := Hls.out; omega))⟩
        obtain ⟨⟨yA, yn, yc⟩, Hy⟩ : ∃ y, Hid (xs[k + 1]? = some y) := ⟨_, Lib.hid (List.getElem?_eq_getElem (show k + 1 < xs.length by omega))⟩
        have hoy : Own wr base 80 2 yA yn yc (s.map encR) := hX.hx.own (k + 1) (yA, yn, yc) s Hy.out Hs.out
        have hly : s.length = yn := by simpa using hoy.len
        have hsm := HF.out _ s Hs.out
        have hcell := hX.hs.cell' rfl Hy.out
        have HH := Lib.hid (sHas_any yA yn yc s 65533 wr (hoy.rd (by omega)) hly (by omega))
        have HD := Lib.hid (drop_at (show d.full.tail[k]? = some s by rw [List.getElem?_tail]; exact Hs.out))
        have hI : (k : Int) + 1 < ns := by omega
        rw [HD.out] at HK
        cases hv : hasB s 65533 with
        | true =>
          have HE := Lib.hid (HK.out.trans (getGo_hit hv))
          rw [hv] at HH
          clear hv hly
          go_wp2_with (go_at_call 21; refine HH.out.mono ?_; rintro e w2 ⟨rfl, rfl⟩)
          go_ret
          exact ⟨by rw [HE.out]; rfl, rfl⟩
        | false =>
          have HE := Lib.hid (HK.out.trans (getGo_miss hv))
          rw [hv] at HH
          clear hv hly
          go_wp2_with (go_at_call 21; refine HH.out.mono ?_; rintro e w2 ⟨rfl, rfl⟩)
          go_roundw
          case rel => exact ⟨k + 1, by go_num, by omega, by first | rfl | trivial, HE⟩
          case measure => simp [intOf]; omega
      · have HE : Hid (d.get r = 0) := Lib.hid (by rw [HK.out, List.drop_of_length_le (by rw [List.length_tail]; have := Hls.out; omega)]; rfl)
        obtain rfl : k + 1 = ns := by omega
        go_wp2
        go_ret
        exact ⟨by rw [HE.out]; rfl, rfl⟩
  · go_enter Tryz.func46, Tryz.ntmps46
    go_wp2_with fail
    go_loopw [5] (fun v wr => ∃ k : Nat, v = .int .i64 (k + 1 : Nat) ∧ k + 1 ≤ ns ∧ wr = w ∧ Hid (d.get q = getGo q (k + 1) (d.full.tail.drop k))) (fun v _ => ns - (intOf v).toNat)
    case atStart => exact ⟨0, rfl, by omega, rfl, by rw [List.drop_zero]; exact HG⟩
    case round =>
      obtain ⟨k, rfl, hk, rfl, HK⟩ := hrel
      by_cases hlt : k + 1 < ns
      · obtain ⟨s, Hs⟩ : ∃ s, Hid (d.full[k + 1]? = some s) := ⟨_, Lib.hid (List.getElem?_eq_getElem (show k + 1 < d.full.length by have := Hls.out; omega))⟩
        obtain ⟨⟨yA, yn, yc⟩, Hy⟩ : ∃ y, Hid (xs[k + 1]? = some y) := ⟨_, Lib.hid (List.getElem?_eq_getElem (show k + 1 < xs.length by omega))⟩
        have hoy : Own wr base 80 2 yA yn yc (s.map encR) := hX.hx.own (k + 1) (yA, yn, yc) s Hy.out Hs.out
        have hly : s.length = yn := by simpa using hoy.len
        have hsm := HF.out _ s Hs.out
        have hcell := hX.hs.cell' rfl Hy.out
        have HH := Lib.hid (sHas_any yA yn yc s q wr (hoy.rd (by omega)) hly (by omega))
        have HD := Lib.hid (drop_at (show d.full.tail[k]? = some s by rw [List.getElem?_tail]; exact Hs.out))
        have hI : (k : Int) + 1 < ns := by omega
        rw [HD.out] at HK
        cases hv : hasB s q with
        | true =>
          have HE := Lib.hid (HK.out.trans (getGo_hit hv))
          rw [hv] at HH
          clear hv hly
          go_wp2_with (go_at_call 21; refine HH.out.mono ?_; rintro e w2 ⟨rfl, rfl⟩)
          go_ret
          exact ⟨by rw [HE.out]; rfl, rfl⟩
        | false =>
          have HE := Lib.hid (HK.out.trans (getGo_miss hv))
          rw [hv] at HH
          clear hv hly
          go_wp2_with (go_at_call 21; refine HH.out.mono ?_; rintro e w2 ⟨rfl, rfl⟩)
          go_roundw
          case rel => exact ⟨k + 1, by go_num, by omega, by first | rfl | trivial, HE⟩
          case measure => simp [intOf]; omega
      · have HE : Hid (d.get q = 0) := Lib.hid (by rw [HK.out, List.drop_of_length_le (by rw [List.length_tail]; have := Hls.out; omega)]; rfl)
        obtain rfl : k + 1 = ns := by omega
        go_wp2
        go_ret
        exact ⟨by rw [HE.out]; rfl, rfl⟩
set_option maxRecDepth 100000 in
set_option maxHeartbeats 2000000 in
theorem vSet_any (base p x : Nat) (d : DbP) (k : Int) (w : World) (h : RfB w base p x d.names d.full) (ho : d.Ok) (hap : Apart d.sets) :
    Calls Tryz.prog 45 #[.pointer (some ⟨p, 0, none⟩), .int .i64 k] w fun e w' => ∃ A n c, e = .returned (.slice A n c) ∧ Own w' w.heap.size 80 2 A n c ((d.setI k).map encR) ∧ Below w.heap.size w w' := by
  obtain ⟨An, nn, cn, As, ns, cs, xs, hX⟩ := h.ex
  obtain ⟨j0, hj0, hy0, hy1, hy2⟩ := info_parts infoR
  have hls := hX.lenS
  have Hlf := Lib.hid hls.2
  have HF := Lib.hid (fun i s (hi : d.full[i]? = some s) => full_small ho hap hi)
  have c1 := hX.blk.cell 1
  simp only [List.getElem?_toArray, List.getElem?_cons_zero, List.getElem?_cons_succ] at c1
  clear ho hap h
  rcases (by omega : k < 0 ∨ (0 ≤ k ∧ (ns : Int) ≤ k) ∨ (0 ≤ k ∧ k < ns)) with h1 | ⟨h1, h2⟩ | ⟨h1, h2⟩
  · have HE : Hid (d.setI k = []) := Lib.hid (if_neg (by omega))
    go_enter Tryz.func45, Tryz.ntmps45
    go_wp2
    go_ret
    exact ⟨none, 0, 0, rfl, by rw [HE.out]; exact Own.nil_ _ _ _ _, Below.refl _ _⟩
  · have HE : Hid (d.setI k = []) := Lib.hid (by unfold DbP.setI; rw [if_pos h1, List.getD_eq_getElem?_getD, List.getElem?_eq_none (by have := Hlf.out; omega)]; rfl)
    go_enter Tryz.func45, Tryz.ntmps45
    go_wp2
    go_ret
    exact ⟨none, 0, 0, rfl, by rw [HE.out]; exact Own.nil_ _ _ _ _, Below.refl _ _⟩
  · obtain ⟨i, rfl⟩ : ∃ i : Nat, k = i := ⟨k.toNat, by omega⟩
    have hi : i < ns := by omega
    obtain ⟨s, Hs⟩ : ∃ s, Hid (d.full[i]? = some s) := ⟨_, Lib.hid (List.getElem?_eq_getElem (by have := Hlf.out; omega))⟩
    obtain ⟨⟨yA, yn, yc⟩, Hx⟩ : ∃ x, Hid (xs[i]? = some x) := ⟨_, Lib.hid (List.getElem?_eq_getElem (by omega))⟩
    have hox : Own w base 80 2 yA yn yc (s.map encR) := hX.hx.own i (yA, yn, yc) s Hx.out Hs.out
    have HE := Lib.hid (setI_at Hs.out)
    have hsl : s.length = yn := by simpa using hox.len
    have hsm := HF.out i s Hs.out
    have Hsl := Lib.hid hsl
    obtain ⟨g, rfl, _, _⟩ := hX.hs.form (by omega)
    have hcell := cell_keep (hX.hs.cell' rfl Hx.out) ((Below.refl w.heap.size w).alloc (Nat.le_refl _) (.cells #[] 80))
    have c1' := cell_keep c1 ((Below.refl w.heap.size w).alloc (Nat.le_refl _) (.cells #[] 80))
    have hyn : yn ≤ 1114112 := by omega
    clear hsl hsm
    go_enter Tryz.func45, Tryz.ntmps45
    go_wp2_with (at_builtin; go_must (refine wpList_app rfl (.tmp 16) (.tmp 23) _ rfl w.heap.size 80 j0 _ 2 8 Tryz.underlying37 hj0 hy0 hy1 hy2 rfl (by omega) (some ⟨w.heap.size, 0, none⟩) 0 0 [] rfl (Own.lit w w.heap.size 80 2 (Nat.le_refl _)) yA yn yc (s.map encR) rfl (by rw [List.length_map]; exact Hsl.out) ((hox.rd (by omega)).alloc _) (encR_ok s) (by unfold maxLen; omega) (by omega) (by simp) ?_); intro A3 c3 w3 ho3 hg3 hA3)
    go_ret
    rw [Nat.zero_add] at ho3
    exact ⟨A3, yn, c3, rfl, by rw [HE.out]; simpa using ho3, below_app ((Below.refl _ _).alloc (Nat.le_refl _) _) hg3 (by simp) (fun a ha => by injection ha with ha; subst ha; exact Nat.le_refl _)⟩
end Go.Proofs.YtejccafolfeabaaGreatDoor

/-
  kerfref04: Text, walked.
-/
namespace Go.Proofs.YtejccafolfeabaaGreatDoor
open Go.RowKit Go.Maps

theorem textK_next {d : DbP} {c : Nat} {n : List UInt8} {s : List (Int × Int)} (hn : d.names[c + 1]? = some n) (hs : d.full[c + 1]? = some s) :
    textG (d.names.tail.take (c + 1)) (d.sets.tail.take (c + 1)) = textG (d.names.tail.take c) (d.sets.tail.take c) ++ (printL s ++ (if s = [] then [] else [32]) ++ [59, 32] ++ n ++ [10]) := by
  rw [textG_take d.names.tail d.sets.tail c n s (by rw [List.getElem?_tail]; exact hn) hs, lineT, setT_eq]
  simp
theorem printL_ne {s : List (Int × Int)} (h : s ≠ []) : printL s ≠ [] := by
  cases s with
  | nil => exact absurd rfl h
  | cons a b =>
    intro hq
    cases b with
    | nil => simp [printL] at hq; exact itemT_ne a hq
    | cons u v => simp [printL] at hq
set_option maxRecDepth 100000 in
set_option maxHeartbeats 4000000 in
theorem vText_any (base p x : Nat) (d : DbP) (w : World) (h : RfB w base p x d.names d.full) (ho : d.Ok) (ha : Apart d.sets) (hnm : d.Named) :
    Calls Tryz.prog 44 #[.pointer (some ⟨p, 0, none⟩)] w fun e w' => e = .returned (.string (bytesOf d.text)) ∧ Below w.heap.size w w' := by
  obtain ⟨An, nn, cn, As, ns, cs, xs, hX⟩ := h.ex
  have hln := hX.lenN
  have hls := hX.lenS
  have hfl := full_len ho
  have hns : nn = ns := by omega
  subst hns
  have hn0 : 0 < nn := by
    have h3 := ho.head
    cases hd : d.names with
    | nil => rw [hd] at h3; cases h3
    | cons a b => rw [hd] at hln; simp at hln; omega
  have hn64 : nn ≤ 64 := by have := ho.few; omega
  obtain ⟨g, rfl, _, _⟩ := hX.hn.form hn0
  obtain ⟨gs, rfl, _, _⟩ := hX.hs.form hn0
  have HNm := Lib.hid (fun k n (hk : d.names[k]? = some n) => (name_part (hnm n (List.mem_of_getElem? hk))).2.1)
  have HNF := Lib.hid (fun k s (hk : d.full[k]? = some s) => full_NF ho s (List.mem_of_getElem? hk))
  have HTx := Lib.hid (fun k => textG_le d.names.tail d.sets.tail k (fun n hn => (name_part (hnm n (List.mem_of_mem_tail hn))).2.1) (by rw [List.length_tail]; omega) (by have := (rng_len ho ha); omega))
  have HText : Hid (d.text = textG d.names.tail d.sets.tail) := rfl
  have Hln := Lib.hid hln
  have Hls := Lib.hid hls
  have Hlt := Lib.hid (show d.sets.tail.length + 1 = nn by rw [show d.full = d.rest :: d.sets.tail from rfl, List.length_cons] at hfl; omega)
  have c0 := hX.blk.cell 0
  have c1 := hX.blk.cell 1
  simp only [List.getElem?_toArray, List.getElem?_cons_zero, List.getElem?_cons_succ] at c0 c1
  clear ho ha hnm h hln hls hfl
  go_enter Tryz.func44, Tryz.ntmps44
  go_wp2_with fail
  go_loopw [3, 4] (fun t v wr => ∃ c : Nat, t = .string (bytesOf (textG (d.names.tail.take c) (d.sets.tail.take c))) ∧ v = .int .i64 (c + 1 : Nat) ∧ c + 1 ≤ nn ∧ Below w.heap.size w wr) (fun _ v _ => nn - (intOf v).toNat)
  case atStart => exact ⟨0, by simp [textG]; rfl, rfl, by omega, Below.refl _ _⟩
  case round =>
    obtain ⟨c, rfl, rfl, hc, hb⟩ := hrel
    have e0 := cell_keep c0 hb
    have e1 := cell_keep c1 hb
    by_cases hlt : c + 1 < nn
    · obtain ⟨n, Hn⟩ : ∃ n, Hid (d.names[c + 1]? = some n) := ⟨_, Lib.hid (List.getElem?_eq_getElem (show c + 1 < d.names.length by have := Hln.out; omega))⟩
      obtain ⟨s, Hs⟩ : ∃ s, Hid (d.full[c + 1]? = some s) := ⟨_, Lib.hid (List.getElem?_eq_getElem (show c + 1 < d.full.length by have := Hls.out; omega))⟩
      obtain ⟨⟨yA, yn, yc⟩, Hy⟩ : ∃ y, Hid (xs[c + 1]? = some y) := ⟨_, Lib.hid (List.getElem?_eq_getElem (show c + 1 < xs.length by have := Hls.out; omega))⟩
      have hoy : Own w base 80 2 yA yn yc (s.map encR) := hX.hx.own (c + 1) (yA, yn, yc) s Hy.out Hs.out
      have hnl := HNm.out _ n Hn.out
      have hNF := HNF.out _ s Hs.out
      have hyn := own_nf_len hoy hNF
      have hly : s.length = yn := by simpa using hoy.len
      have hcn : wr.cell? ⟨g, c + 1, none⟩ = some (.string (bytesOf n)) := by
        have h1 := hX.hn.cell (k := c + 1) (j := 0) (x := encNm n) (u := .string (bytesOf n)) (by rw [List.getElem?_map, Hn.out]; rfl) rfl
        simp only [Nat.mul_one, Nat.add_zero] at h1
        exact cell_keep h1 hb
      have hcy : wr.cell? ⟨gs, c + 1, none⟩ = some (.slice yA yn yc) := cell_keep (hX.hs.cell' rfl Hy.out) hb
      have HP := Lib.hid (sPrint_any yA yn yc s wr ((hoy.rd (by omega)).below hb) hly (by omega))
      have hpr : printP s = printL s := by unfold printP; rw [normR_of_NF hNF]
      have hprl := printL_len s
      have HTake := Lib.hid (textK_next Hn.out Hs.out)
      rw [hpr] at HP
      obtain ⟨P, HPd⟩ : ∃ P : ByteArray, Hid ((⟨(printL s).toArray⟩ : ByteArray) = P) := ⟨_, rfl⟩
      have hPs : P.size ≤ 20100000 := by rw [← HPd.out, ← size_data]; simp only []; omega
      have HPl : Hid (P.data.toList = printL s) := Lib.hid (by rw [← HPd.out])
      have hbn : (bytesOf n).size ≤ 32 := by rw [bytesOf_size]; exact hnl
      rw [HPd.out] at HP
      obtain ⟨T, HT⟩ : ∃ T, Hid (bytesOf (textG (d.names.tail.take c) (d.sets.tail.take c)) = T) := ⟨_, rfl⟩
      have hTs : T.size ≤ 30000000 := by rw [← HT.out, bytesOf_size]; exact HTx.out c
      rw [HT.out]
      have hI1 : (c : Int) + 1 < nn := by omega
      have s1 : (⟨#[59, 32]⟩ : ByteArray).size = 2 := rfl
      have s2 : (⟨#[10]⟩ : ByteArray).size = 1 := rfl
      have s3 : (⟨#[32]⟩ : ByteArray).size = 1 := rfl
      clear hNF hpr hly hoy hprl
      by_cases hse : s = []
      · have hem : P.toList.isEmpty = true := by rw [ByteArray.toList_eq, HPl.out, hse]; rfl
        have HL : Hid (∀ X : ByteArray, X = T ++ P ++ ⟨#[59, 32]⟩ ++ bytesOf n ++ ⟨#[10]⟩ → X = bytesOf (textG (d.names.tail.take (c + 1)) (d.sets.tail.take (c + 1)))) := Lib.hid (fun X hX => by
          subst hX
          rw [HTake.out, if_pos hse, ← HT.out]
          apply ByteArray.ext
          rw [← Array.toList_inj]
          simp [bytesOf, HPl.out])
        clear hse HTake HPl
        go_wp2_with fail
        refine HP.out.mono ?_
        rintro e w2 ⟨rfl, hb2⟩
        have f0 := cell_keep e0 hb2
        have hcn2 := cell_keep hcn hb2
        go_wp2_with fail
        go_roundw
        case rel => exact ⟨c + 1, by rw [HL.out _ rfl], by go_num, by omega, below_step hb hb2 hb.size⟩
        case measure => simp [intOf]; omega
      · have hem : P.toList.isEmpty = false := by
          rw [ByteArray.toList_eq, HPl.out]
          have := printL_ne hse
          cases hq : printL s with
          | nil => exact absurd hq this
          | cons a b => rfl
        have HL : Hid (∀ X : ByteArray, X = T ++ (P ++ ⟨#[32]⟩) ++ ⟨#[59, 32]⟩ ++ bytesOf n ++ ⟨#[10]⟩ → X = bytesOf (textG (d.names.tail.take (c + 1)) (d.sets.tail.take (c + 1)))) := Lib.hid (fun X hX => by
          subst hX
          rw [HTake.out, if_neg hse, ← HT.out]
          apply ByteArray.ext
          rw [← Array.toList_inj]
          simp [bytesOf, HPl.out])
        clear hse HTake HPl
        go_wp2_with fail
        refine HP.out.mono ?_
        rintro e w2 ⟨rfl, hb2⟩
        have f0 := cell_keep e0 hb2
        have hcn2 := cell_keep hcn hb2
        go_wp2_with fail
        go_roundw
        case rel => exact ⟨c + 1, by rw [HL.out _ rfl], by go_num, by omega, below_step hb hb2 hb.size⟩
        case measure => simp [intOf]; omega
    · obtain rfl : c + 1 = nn := by omega
      have HE : Hid (textG (d.names.tail.take c) (d.sets.tail.take c) = d.text) := Lib.hid (by rw [HText.out, List.take_of_length_le (by rw [List.length_tail]; have := Hln.out; omega), List.take_of_length_le (by have := Hlt.out; omega)])
      rw [HE.out]
      go_wp2
      go_ret
      exact ⟨rfl, hb⟩
end Go.Proofs.YtejccafolfeabaaGreatDoor

/-
  kerflaw04: ranged, walked (ranges with classes, compared).
-/
namespace Go.Proofs.YtejccafolfeabaaGreatDoor
open Go.RowKit Go.Maps

def eqDB (x y : Int × Int × Nat) : Bool := decide (x = y)
set_option maxRecDepth 100000 in
theorem eqlD (a b a' b' c c' : Int) (w : World) : (binOp .eql 82 (.agg #[.int .i32 a, .int .i32 b, .int .i64 c]) (.agg #[.int .i32 a', .int .i32 b', .int .i64 c'])).run Tryz.prog w = .ok (.bool (decide ((a, b, c) = (a', b', c')))) w := by
  have hS : Tryz.prog.underlying 82 = some (.struct (Tryz.prog.fieldsOf 82)) := by kernel_rfl
  have hp : Tryz.prog.stoodInHeld 82 = false := by kernel_rfl
  have u3 := Tryz.underlying21
  have a3 := Tryz.isAgg21
  have z3 := Tryz.sizeOf21
  have u4 := Tryz.underlying3
  have a4 := Tryz.isAgg3
  have z4 := Tryz.sizeOf3
  rw [run_eql_struct, show (10000 : Nat) = 9999 + 1 from rfl, run_equalIn_agg w 9999 _ _ _ hS hp]
  simp only [Program.fieldsOf, Tryz.underlying82]
  go_simp
  by_cases h1 : a = a' <;> by_cases h2 : b = b' <;> by_cases h3 : c = c' <;> simp [h1, h2, h3]
theorem neqD (a b a' b' c c' : Int) (w : World) : (binOp .neq 82 (.agg #[.int .i32 a, .int .i32 b, .int .i64 c]) (.agg #[.int .i32 a', .int .i32 b', .int .i64 c'])).run Tryz.prog w = .ok (.bool (!decide ((a, b, c) = (a', b', c')))) w := by
  have h := eqlD a b a' b' c c' w
  rw [run_eql_struct] at h
  rw [run_neq_struct]
  cases hq : (Op.equalIn 10000 82 (.agg #[.int .i32 a, .int .i32 b, .int .i64 c]) (.agg #[.int .i32 a', .int .i32 b', .int .i64 c'])).run Tryz.prog w with
  | ok b' w' => rw [hq] at h; simp at h; simp [h]
  | _ => rw [hq] at h; simp at h
attribute [local go_sem ↓] neqD eqlD
set_option maxRecDepth 100000 in
set_option maxHeartbeats 1000000 in
theorem qranged_any (A B : Option Addr) (n c e : Nat) (l : List (Int × Int × Nat)) (w : World) (hA : Rd w 3 A (l.map encD)) (hB : Rd w 3 B (l.map encD)) (hl : l.length = n) (hn : n ≤ 4000000) :
    Calls Tryz.prog 42 #[.slice A n c, .slice B n e] w fun e w' => e = .returned (.bool true) ∧ ∃ k, w' = w.drewN k := by
  have Hl := Lib.hid hl
  clear hl
  go_enter Tryz.func42, Tryz.ntmps42
  go_wp2
  go_loopw [5] (fun v wr => ∃ i k : Nat, v = .int .i64 i ∧ i ≤ n ∧ wr = w.drewN k) (fun v _ => n - (intOf v).toNat)
  case atStart => exact ⟨0, 0, rfl, by omega, rfl⟩
  case round =>
    obtain ⟨i, k, rfl, hi, rfl⟩ := hrel
    by_cases hlt : i < n
    · obtain ⟨⟨x1, x2, x3⟩, Hx⟩ : ∃ x, Hid (l[i]? = some x) := ⟨_, Lib.hid (List.getElem?_eq_getElem (show i < l.length by have := Hl.out; omega))⟩
      obtain ⟨b, off, rfl, h1, h2, h3⟩ := hA.atD Hx.out
      obtain ⟨b', off', rfl, k1, k2, k3⟩ := hB.atD Hx.out
      have hq := fun W => neqD x1 x2 x1 x2 x3 x3 W
      simp only [decide_true, Bool.not_true] at hq
      go_wp2_with fail
      go_quiet (fail)
      go_wp2
      go_roundw
      case rel => exact ⟨i + 1, _, by go_num, by omega, by first | rfl | exact World.drewN_drewN _ _ _⟩
      case measure => simp [intOf]; omega
    · go_wp2
      go_ret
      exact ⟨rfl, k, rfl⟩
end Go.Proofs.YtejccafolfeabaaGreatDoor

/-
  kerfref04: Ranged, walked (each range sunk to its place).
-/
namespace Go.Proofs.YtejccafolfeabaaGreatDoor
open Go.RowKit Go.Maps

theorem snocD_cases {α : Type} (l : List α) : l = [] ∨ ∃ o y, l = o ++ [y] := by
  rcases List.eq_nil_or_concat l with h | ⟨o, y, h⟩
  · exact .inl h
  · exact .inr ⟨o, y, by simpa using h⟩
theorem sinkD {L l1 l2 : List (Int × Int × Nat)} {x : Int × Int × Nat} (hs : L = l1 ++ l2) (h2 : ∀ y ∈ l2, x.1 < y.1) (h1 : ∀ o y, l1 = o ++ [y] → y.1 ≤ x.1) (hr : RiseC L) : RiseC (l1 ++ x :: l2) ∧ (l1 ++ x :: l2).Perm (L ++ [x]) := by
  subst hs
  constructor
  · unfold RiseC at *
    rw [List.pairwise_append] at hr ⊢
    obtain ⟨ha, hb, hc⟩ := hr
    have hx : ∀ y ∈ l1, y.1 ≤ x.1 := by
      intro y hy
      rcases snocD_cases l1 with rfl | ⟨o, z, rfl⟩
      · simp at hy
      · have hz := h1 o z rfl
        rcases List.mem_append.1 hy with hy | hy
        · have := (List.pairwise_append.1 ha).2.2 y hy z (by simp); omega
        · simp at hy; subst hy; exact hz
    refine ⟨ha, List.pairwise_cons.2 ⟨fun y hy => by have := h2 y hy; omega, hb⟩, fun y hy z hz => ?_⟩
    rcases List.mem_cons.1 hz with rfl | hz
    · exact hx y hy
    · exact hc y hy z hz
  · rw [List.append_assoc]
    exact List.Perm.append_left l1 (List.perm_append_comm (l₁ := [x]) (l₂ := l2))
theorem Own.storedD {w : World} {base : Nat} {e : TypeId} {g n c k : Nat} {l : List (Int × Int × Nat)} (h : Own w base e 3 (some ⟨g, 0, none⟩) n c (l.map encD)) (hk : k < l.length) (x : Int × Int × Nat) :
    Own (((w.setCell ⟨g, k * 3, none⟩ (.int .i32 x.1)).setCell ⟨g, k * 3 + 1, none⟩ (.int .i32 x.2.1)).setCell ⟨g, k * 3 + 2, none⟩ (.int .i64 (x.2.2 : Int))) base e 3 (some ⟨g, 0, none⟩) n c ((l.set k x).map encD) := by
  have h1 := h.stored (k := k) (j := 0) (x := encD l[k]) (by simp [hk]) (by omega) (.int .i32 x.1)
  have h2 := h1.stored (k := k) (j := 1) (x := (encD l[k]).set 0 (.int .i32 x.1)) (by simp [hk]) (by omega) (.int .i32 x.2.1)
  have h3 := h2.stored (k := k) (j := 2) (x := ((encD l[k]).set 0 (.int .i32 x.1)).set 1 (.int .i32 x.2.1)) (by simp [hk]) (by omega) (.int .i64 (x.2.2 : Int))
  have e : (((l.map encD).set k ((encD l[k]).set 0 (.int .i32 x.1))).set k (((encD l[k]).set 0 (.int .i32 x.1)).set 1 (.int .i32 x.2.1))).set k ((((encD l[k]).set 0 (.int .i32 x.1)).set 1 (.int .i32 x.2.1)).set 2 (.int .i64 (x.2.2 : Int))) = (l.set k x).map encD := by
    rw [List.set_set, List.set_set, List.map_set]; rfl
  rw [e] at h3
  exact h3
theorem Own.cellD {w : World} {base : Nat} {e : TypeId} {g n c k : Nat} {l : List (Int × Int × Nat)} {x : Int × Int × Nat} (h : Own w base e 3 (some ⟨g, 0, none⟩) n c (l.map encD)) (hk : l[k]? = some x) :
    w.cell? ⟨g, k * 3, none⟩ = some (.int .i32 x.1) ∧ w.cell? ⟨g, k * 3 + 1, none⟩ = some (.int .i32 x.2.1) ∧ w.cell? ⟨g, k * 3 + 2, none⟩ = some (.int .i64 (x.2.2 : Int)) := by
  have hx : (l.map encD)[k]? = some (encD x) := by simp [hk]
  exact ⟨h.cell (j := 0) hx rfl, h.cell (j := 1) hx rfl, h.cell (j := 2) hx rfl⟩
set_option maxRecDepth 100000 in
set_option maxHeartbeats 8000000 in
theorem vRanged_any (base p x : Nat) (d : DbP) (w : World) (h : RfB w base p x d.names d.full) (ho : d.Ok) (ha : Apart d.sets) :
    Calls Tryz.prog 43 #[.pointer (some ⟨p, 0, none⟩)] w fun e w' => ∃ A n c, e = .returned (.slice A n c) ∧ Own w' w.heap.size 82 3 A n c (d.rng.map encD) ∧ Below w.heap.size w w' := by
  obtain ⟨An, nn, cn, As, ns, cs, xs, hX⟩ := h.ex
  obtain ⟨i0, hi0, hz0, hz1, hz2⟩ := info_parts info_cloneD
  have hls := hX.lenS
  have hfl := full_len ho
  have hn0 : 0 < ns := by
    have h3 := ho.head
    cases hd : d.names with
    | nil => rw [hd] at h3; cases h3
    | cons a b => rw [hd] at hfl; simp at hfl; omega
  have hn64 : ns ≤ 64 := by have := ho.few; omega
  obtain ⟨gs, rfl, _, _⟩ := hX.hs.form hn0
  have c1 := hX.blk.cell 1
  simp only [List.getElem?_toArray, List.getElem?_cons_zero, List.getElem?_cons_succ] at c1
  obtain ⟨T, HT⟩ : ∃ T, Hid (d.sets.tail = T) := ⟨_, rfl⟩
  have HTl : Hid (T.length + 1 = ns) := Lib.hid (by have := HT.out; rw [show d.full = d.rest :: d.sets.tail from rfl, List.length_cons, this] at hls; omega)
  have HTS : Hid (lenS T ≤ 1114112) := Lib.hid (by have := rng_len ho ha; rw [← HT.out]; omega)
  have HTN : Hid (∀ (k : Nat) (s : List (Int × Int)), T[k]? = some s → NF s ∧ d.full[k + 1]? = some s) := Lib.hid (fun k s hk => by
    have : d.full[k + 1]? = some s := by rw [← HT.out] at hk; exact hk
    exact ⟨full_NF ho s (List.mem_of_getElem? this), this⟩)
  have HU : Hid (∀ L, L.Perm (entG 1 T) → RiseC L → L = d.rng) := Lib.hid (fun L hp hr => rng_unique ho ha (by unfold DbP.ents; rw [HT.out]; exact hp) hr)
  have Hlx := Lib.hid hls.1
  clear ho ha h hls hfl
  go_enter Tryz.func43, Tryz.ntmps43
  go_wp2_with fail
  go_loopw [3, 4] (fun l v wr => ∃ (c : Nat) (L : List (Int × Int × Nat)) (A : Option Addr) (n cc : Nat), l = .slice A n cc ∧ v = .int .i64 (c + 1 : Nat) ∧ c + 1 ≤ ns ∧ Hid (RiseC L ∧ L.Perm (gotR T c 0)) ∧ Own wr w.heap.size 82 3 A n cc (L.map encD) ∧ Below w.heap.size w wr) (fun _ v _ => ns - (intOf v).toNat)
  case atStart => exact ⟨0, [], none, 0, 0, rfl, rfl, by omega, Lib.hid ⟨List.Pairwise.nil, by rw [gotR_first]⟩, Own.nil_ _ _ _ _, Below.refl _ _⟩
  case round =>
    obtain ⟨c, L, A, n, cc, rfl, rfl, hc, HL, hol, hb⟩ := hrel
    have hszr := hb.size
    have e1 := cell_keep c1 hb
    by_cases hlt : c + 1 < ns
    · obtain ⟨s, Hs⟩ : ∃ s, Hid (T[c]? = some s) := ⟨_, Lib.hid (List.getElem?_eq_getElem (show c < T.length by have := HTl.out; omega))⟩
      obtain ⟨HNF, Hd⟩ := HTN.out c s Hs.out
      obtain ⟨⟨yA, yn, yc⟩, Hy⟩ : ∃ y, Hid (xs[c + 1]? = some y) := ⟨_, Lib.hid (List.getElem?_eq_getElem (show c + 1 < xs.length by have := Hlx.out; omega))⟩
      have hoy : Own w base 80 2 yA yn yc (s.map encR) := hX.hx.own (c + 1) (yA, yn, yc) s Hy.out Hd
      have hly : s.length = yn := by simpa using hoy.len
      have Hly := Lib.hid hly
      have hny := own_nf_len hoy HNF
      have hcy := hX.hs.cell' rfl Hy.out
      have hI : (c : Int) + 1 < ns := by omega
      clear HNF Hd hly
      go_wp2_with fail
      go_loopw [3, 5] (fun l v wq => ∃ (k : Nat) (L : List (Int × Int × Nat)) (A : Option Addr) (n cc : Nat), l = .slice A n cc ∧ v = .int .i64 k ∧ k ≤ yn ∧ Hid (RiseC L ∧ L.Perm (gotR T c k)) ∧ Own wq w.heap.size 82 3 A n cc (L.map encD) ∧ Below w.heap.size w wq) (fun _ v _ => yn - (intOf v).toNat)
      case atStart => exact ⟨0, L, A, n, cc, rfl, rfl, by omega, HL, hol, hb⟩
      case round =>
        clear HL hol hb hszr e1
        obtain ⟨k, L, A, n, cc, rfl, rfl, hk, HL, hol, hb⟩ := hrel
        have hszr := hb.size
        have e1 := cell_keep c1 hb
        have e2 := cell_keep hcy hb
        have hnl : n ≤ 1114112 := by have h1 := hol.len; rw [List.length_map, HL.out.2.length_eq] at h1; have := gotR_len (S := T) (c := c) (k := k); have := HTS.out; omega
        by_cases hkl : k < yn
        · obtain ⟨b, off, lo, hi, rfl, Hx, hx1, hx2⟩ := (hoy.rd (by omega)).atR (k := k) (by have := Hly.out; omega)
          have HG := Lib.hid (gotR_in Hs.out Hx.out)
          have q1 := cell_keep hx1 hb
          have q2 := cell_keep hx2 hb
          have hIk : (c : Int) + 1 ≤ ns := by omega
          have HW : Hid (IntKind.i64.wrap ((c : Int) + 1) = (c : Int) + 1) := Lib.hid (IntWalk.i64_in _ (by omega))
          have hAlt := hol.lt
          go_wp2_with (at_builtin; go_must (refine wpList_app rfl (.tmp 39) (.tmp 46) _ rfl w.heap.size 82 i0 _ 3 16 Tryz.underlying64 hi0 hz0 hz1 hz2 rfl (by omega) A n cc (L.map encD) rfl ((hol.alloc _).alloc _) _ 1 1 [encD (lo, hi, c + 1)] rfl rfl (Rd.newAt (by simp) (by simp [encD])) (encD_ok [(lo, hi, c + 1)]) (by unfold maxLen; omega) (by omega) (by simp; omega) ?_); intro A3 c3 w3 ho3 hg3 hA3)
          have hx1' : w3.cell? ⟨wr.heap.size, 0, none⟩ = some (.int .i32 lo) := hg3.cell (by simp) (fun e => by
            cases A with
            | none => simp at e
            | some a => have := (hAlt a rfl).2; simp at e; omega)
          have hbl : Below w.heap.size w w3 := below_app ((hb.alloc hszr _).alloc (by simp; omega) _) hg3 (by simp; omega) (fun a ha => (hAlt a ha).1)
          obtain ⟨g, rfl, hgB, hgl⟩ := ho3.form (by omega)
          have hgne : g ≠ wr.heap.size := by
            rcases hA3 with h | h
            · have := (hAlt _ h.symm).2; simp at this; omega
            · simp at h; omega
          have hLn : L.length = n := by simpa using hol.len
          have Ho3 : Own w3 w.heap.size 82 3 (some ⟨g, 0, none⟩) (n + 1) c3 ((L ++ (lo, hi, c + 1) :: []).map encD) := by rw [List.map_append]; exact ho3
          have HLn := Lib.hid hLn
          clear hg3 hA3 hAlt hol ho3 hb hszr hx1 hx2 q1 q2 e1 e2 hLn
          go_loopw [7] (fun i wz => ∃ (j : Nat) (l1 l2 : List (Int × Int × Nat)), i = .int .i64 j ∧ Hid (l1.length = j) ∧ Hid (L = l1 ++ l2) ∧ Hid (∀ y ∈ l2, lo < y.1) ∧
              Own wz w.heap.size 82 3 (some ⟨g, 0, none⟩) (n + 1) c3 ((l1 ++ (lo, hi, c + 1) :: l2).map encD) ∧ wz.cell? ⟨wr.heap.size, 0, none⟩ = some (.int .i32 lo) ∧ Below w.heap.size w wz) (fun i _ => (intOf i).toNat)
          case atStart => exact ⟨n, L, [], by go_num, HLn, by simp [Hid], fun y hy => by simp at hy, Ho3, hx1', hbl⟩
          case round =>
            clear Ho3 hx1' hbl
            obtain ⟨j, l1, l2, rfl, Hj, Hl, Hlt, ho, hc1, hb⟩ := hrel
            have hjn : j ≤ n := by have := HLn.out; rw [Hl.out, List.length_append] at this; have := Hj.out; omega
            rcases Nat.eq_zero_or_pos j with h0 | h0
            · obtain rfl : l1 = [] := List.eq_nil_of_length_eq_zero (Hj.out.trans h0)
              subst h0
              have HE := Lib.hid (sinkD (x := (lo, hi, c + 1)) Hl.out Hlt.out (fun o y h => by simp at h) HL.out.1)
              have HE2 : Hid (RiseC ([] ++ (lo, hi, c + 1) :: l2) ∧ ([] ++ (lo, hi, c + 1) :: l2).Perm (gotR T c (k + 1))) := Lib.hid ⟨HE.out.1, by rw [HG.out]; exact HE.out.2.trans (HL.out.2.append_right _)⟩
              clear HE
              go_wp2_with fail
              go_quiet (fail)
              go_wp2
              go_roundw
              case rel => exact ⟨k + 1, _, _, _, _, rfl, by go_num, by omega, HE2, ho.drewN _, below_drewN hb _⟩
              case measure => simp [intOf]; omega
            · obtain ⟨i, rfl⟩ : ∃ i, j = i + 1 := ⟨j - 1, by omega⟩
              obtain ⟨l1', ⟨y1, y2, y3⟩, rfl⟩ : ∃ l1' y, l1 = l1' ++ [y] := by
                rcases snocD_cases l1 with h | h
                · have := Hj.out; simp [h] at this
                · exact h
              have Hi : Hid (l1'.length = i) := Lib.hid (by have := Hj.out; simpa using this)
              have hgy : (l1' ++ [(y1, y2, y3)] ++ (lo, hi, c + 1) :: l2)[i]? = some (y1, y2, y3) := by have := Hi.out; subst this; simp
              have hgz : (l1' ++ [(y1, y2, y3)] ++ (lo, hi, c + 1) :: l2)[i + 1]? = some (lo, hi, c + 1) := by have := Hi.out; subst this; simp
              have ⟨hy1, hy2, hy3⟩ := ho.cellD hgy
              have ⟨hz1, hz2, hz3⟩ := ho.cellD hgz
              have hjl : i + 1 < (l1' ++ [(y1, y2, y3)] ++ (lo, hi, c + 1) :: l2).length := (List.getElem?_eq_some_iff.1 hgz).1
              clear hgy hgz
              have hf1 := ho.frozen ((i + 1) * 3)
              have hf2 := ho.frozen ((i + 1) * 3 + 1)
              have hf3 := ho.frozen ((i + 1) * 3 + 2)
              have hf4 := ho.frozen (i * 3)
              have hf5 := ho.frozen (i * 3 + 1)
              have hf6 := ho.frozen (i * 3 + 2)
              by_cases hgt : lo < y1
              · have hdd : decide (lo < y1) = true := decide_eq_true hgt
                go_wp2_with fail
                go_quiet (fail)
                go_wp2_with fail
                go_region
                go_wp2
                go_roundw
                case rel =>
                  refine ⟨i, l1', (y1, y2, y3) :: l2, rfl, Hi, Lib.hid (by have := Hl.out; simpa using this), Lib.hid (fun q hq => ?_), ?_, ?_, ?_⟩
                  · rcases List.mem_cons.1 hq with rfl | hq
                    · exact hgt
                    · exact Hlt.out q hq
                  · have k1 := (ho.drewN (nq + 1)).storedD (k := i) (by omega) (lo, hi, c + 1)
                    have k2 := k1.storedD (k := i + 1) (by rw [List.length_set]; exact hjl) (y1, y2, y3)
                    have e : ((l1' ++ [(y1, y2, y3)] ++ (lo, hi, c + 1) :: l2).set i (lo, hi, c + 1)).set (i + 1) (y1, y2, y3) = l1' ++ (lo, hi, c + 1) :: (y1, y2, y3) :: l2 := by
                      have h := Hi.out; subst h; simp
                    rw [e] at k2
                    exact k2
                  · simp [World.cell?_setCell_other]; exact hc1
                  · exact ((((((below_drewN hb _).setCell hgB _).setCell hgB _).setCell hgB _).setCell hgB _).setCell hgB _).setCell hgB _
                case measure => simp [intOf]
              · have hdd : decide (lo < y1) = false := decide_eq_false hgt
                have HE := Lib.hid (sinkD (x := (lo, hi, c + 1)) Hl.out Hlt.out (fun o y h => by
                  obtain ⟨_, h⟩ := List.append_inj' h rfl
                  simp at h; subst h; simp only; omega) HL.out.1)
                have HE2 : Hid (RiseC (l1' ++ [(y1, y2, y3)] ++ (lo, hi, c + 1) :: l2) ∧ (l1' ++ [(y1, y2, y3)] ++ (lo, hi, c + 1) :: l2).Perm (gotR T c (k + 1))) := Lib.hid ⟨HE.out.1, by rw [HG.out]; exact HE.out.2.trans (HL.out.2.append_right _)⟩
                clear HE hgt
                go_wp2_with fail
                go_quiet (fail)
                go_wp2
                go_roundw
                case rel => exact ⟨k + 1, _, _, _, _, rfl, by go_num, by omega, HE2, ho.drewN _, below_drewN hb _⟩
                case measure => simp [intOf]; omega
        · have HL' : Hid (RiseC L ∧ L.Perm (gotR T (c + 1) 0)) := Lib.hid (by rw [← gotR_out Hs.out (k := k) (by have := Hly.out; omega)]; exact HL.out)
          go_wp2
          go_roundw
          case rel => exact ⟨c + 1, L, A, n, cc, rfl, by go_num, by omega, HL', hol, hb⟩
          case measure => simp [intOf]; omega
    · obtain rfl : c + 1 = ns := by omega
      have HE : Hid (L = d.rng) := Lib.hid (HU.out L (by have h1 := HL.out.2; rw [gotR_end (by have := HTl.out; omega)] at h1; exact h1) HL.out.1)
      rw [HE.out] at hol
      go_wp2
      go_ret
      exact ⟨_, _, _, rfl, hol, hb⟩
end Go.Proofs.YtejccafolfeabaaGreatDoor

/-
  kerflaw04: stands, walked.
-/
namespace Go.Proofs.YtejccafolfeabaaGreatDoor
open Go.RowKit Go.Maps

theorem num_at {d : DbP} (ho : d.Ok) {i : Nat} {n : List UInt8} (h : d.names[i]? = some n) : d.num n = some i := by
  have hm := List.mem_of_getElem? h
  cases hq : d.num n with
  | none => exact absurd hm (idxOf?_none hq)
  | some j =>
    have hj : d.names[j]? = some n := idxOf?_some hq
    obtain ⟨h1, e1⟩ := List.getElem?_eq_some_iff.1 hj
    obtain ⟨h2, e2⟩ := List.getElem?_eq_some_iff.1 h
    have hP := List.pairwise_iff_getElem.1 ho.nodup
    rcases Nat.lt_trichotomy i j with k | k | k
    · exact absurd (e2.trans e1.symm) (hP i j h2 h1 k)
    · rw [k]
    · exact absurd (e1.trans e2.symm) (hP j i h1 h2 k)
theorem num_empty {d : DbP} (hnm : d.Named) : d.num [] = none := idx_none fun h => by
  have h1 := hnm [] h
  revert h1; decide
theorem setI_small {d : DbP} (ho : d.Ok) (ha : Apart d.sets) (z : Int) : (d.setI z).length ≤ 1114112 := by
  unfold DbP.setI
  split
  · rw [List.getD_eq_getElem?_getD]
    cases hq : d.full[z.toNat]? with
    | none => simp
    | some s => exact full_small ho ha hq
  · simp
theorem Own.storedNm {w : World} {base : Nat} {e : TypeId} {g n c k : Nat} {l : List (List UInt8)} (h : Own w base e 1 (some ⟨g, 0, none⟩) n c (l.map encNm)) (hk : k < l.length) (y : List UInt8) :
    Own (w.setCell ⟨g, k, none⟩ (.string (bytesOf y))) base e 1 (some ⟨g, 0, none⟩) n c ((l.set k y).map encNm) := by
  have h1 := h.stored (k := k) (j := 0) (x := encNm l[k]) (by simp [hk]) (by omega) (.string (bytesOf y))
  rw [Nat.mul_one, Nat.add_zero] at h1
  have e : (l.map encNm).set k ((encNm l[k]).set 0 (.string (bytesOf y))) = (l.set k y).map encNm := by rw [List.map_set]; rfl
  rw [e] at h1
  exact h1
theorem Own.cellNm {w : World} {base n c g k : Nat} {e : TypeId} {l : List (List UInt8)} {y : List UInt8} (h : Own w base e 1 (some ⟨g, 0, none⟩) n c (l.map encNm)) (hy : l[k]? = some y) : w.cell? ⟨g, k, none⟩ = some (.string (bytesOf y)) := by
  have := h.cell (k := k) (j := 0) (x := encNm y) (u := .string (bytesOf y)) (by rw [List.getElem?_map, hy]; rfl) rfl
  simpa using this
set_option maxRecDepth 100000 in
set_option maxHeartbeats 8000000 in
theorem qstands_any (base p pr x : Nat) (d : DbP) (Aq : Option Addr) (nq cq : Nat) (q : List Int) (w : World) (hd : DbAt w p d) (hr : RfB w base pr x d.names d.full) (ho : d.Ok) (ha : Apart d.sets) (hnm : d.Named) (hT : TabB w)
    (hq : Rd w 1 Aq (q.map fun r => [.int .i32 r])) (hql : q.length = nq) (hqn : nq ≤ 300) :
    Calls Tryz.prog 16 #[.pointer (some ⟨p, 0, none⟩), .pointer (some ⟨pr, 0, none⟩), .slice Aq nq cq] w fun e w' => e = .returned (.bool true) ∧ Below w.heap.size w w' := by
  obtain ⟨An, nn, cn, As, ns, cs, xs, hX⟩ := hr.ex
  have Hln := Lib.hid hX.lenN
  have hn64 : nn ≤ 64 := by have := ho.few; have := Hln.out; omega
  have HRn := Lib.hid (hX.hn.rd (by omega))
  have c0 := hX.blk.cell 0
  simp only [List.getElem?_toArray, List.getElem?_cons_zero] at c0
  have HRl := Lib.hid ((rng_len ho ha).1)
  have HNames := Lib.hid (fun W h => wNames_any p d W h ho)
  have HRanged := Lib.hid (fun W h => wRanged_any p d W h ho ha)
  have HText := Lib.hid (fun W h hT => wText_any p d W h ho ha hnm hT)
  have HSet := Lib.hid (fun z W h => wSet_any p d z W h ho ha)
  have HGet := Lib.hid (fun r W h => wGet_any p d r W h ho ha)
  have HClass := Lib.hid (fun n W h => wClass_any p d n W h ho)
  have HvR := Lib.hid (fun W h => vRanged_any base pr x d W h ho ha)
  have HvT := Lib.hid (fun W h => vText_any base pr x d W h ho ha hnm)
  have HvS := Lib.hid (fun z W h => vSet_any base pr x d z W h ho ha)
  have HvG := Lib.hid (fun r W h => vGet_any base pr x d r W h ho ha)
  have HNum := Lib.hid (fun i n (h : d.names[i]? = some n) => num_at ho h)
  have HNE := Lib.hid (num_empty hnm)
  have HNl := Lib.hid (fun n (hk : n ∈ d.names) => (name_part (hnm n hk)).2.1)
  have HSs := Lib.hid (fun z => setI_small ho ha z)
  have Hql := Lib.hid hql
  obtain ⟨T, HTd⟩ : ∃ T, Hid (bytesOf d.text = T) := ⟨_, rfl⟩
  rw [HTd.out] at HText HvT
  clear ho ha hnm hql hX
  go_enter Tryz.func16, Tryz.ntmps16
  go_wp2_with fail
  refine (HNames.out w hd).mono ?_
  rintro e w1 ⟨A1, n1, c1, rfl, ho1, hb1⟩
  obtain rfl : n1 = nn := by have := ho1.len; rw [List.length_map] at this; have := Hln.out; omega
  go_wp2_with fail
  refine (HRanged.out w1 (hd.below hb1)).mono ?_
  rintro e w2 ⟨A2, n2, c2, rfl, ho2, hb2⟩
  have Hl2 : Hid (d.rng.length = n2) := Lib.hid (by have := ho2.len; rw [List.length_map] at this; exact this)
  have hn2 : n2 ≤ 1114112 := by have := Hl2.out; have := HRl.out; omega
  have hB2 := below_two hb1 hb2
  have e0 := cell_keep c0 hB2
  go_wp2_with fail
  refine (qtexts_any A1 An n1 c1 cn d.names w2 ((ho1.below hb2).rd (by omega)) (HRn.out.below hB2) Hln.out (by omega)).mono ?_
  rintro e w3 ⟨rfl, k3, rfl⟩
  go_wp2_with fail
  refine (HvR.out _ ((hr.below hB2).below (below_refl_drewN w2 k3))).mono ?_
  rintro e w4 ⟨A4, n4, c4, rfl, ho4, hb4⟩
  obtain rfl : n4 = n2 := by have := ho4.len; rw [List.length_map] at this; have := Hl2.out; omega
  have hB4 := below_two (below_drewN hB2 k3) hb4
  have ho1' := ((ho1.below hb2).drewN k3).below hb4
  have ho2' := (ho2.drewN k3).below hb4
  go_wp2_with fail
  refine (qranged_any A2 A4 n4 c2 c4 d.rng w4 (ho2'.rd (by omega)) (ho4.rd (by omega)) Hl2.out (by omega)).mono ?_
  rintro e w5 ⟨rfl, k5, rfl⟩
  have hB5 := below_drewN hB4 k5
  go_wp2_with fail
  refine (HText.out _ (hd.below hB5) (cell_keep hT hB5)).mono ?_
  rintro e w6 ⟨rfl, hb6⟩
  have hB6 := below_two hB5 hb6
  go_wp2_with fail
  refine (HvT.out _ (hr.below hB6)).mono ?_
  rintro e w7 ⟨rfl, hb7⟩
  have hB7 := below_two hB6 hb7
  have hn1 := (((ho1'.drewN k5).below hb6).below hb7)
  have hg1 := (((ho2'.drewN k5).below hb6).below hb7)
  have hz1 := hb1.size
  clear ho1 ho2 ho4 ho1' ho2' hb1 hb2 hb4 hb6 hb7 hB2 hB4 hB5 hB6 e0
  go_wp2_with fail
  go_loopw [9] (fun v wr => ∃ z : Int, v = .int .i64 z ∧ -1 ≤ z ∧ z ≤ n1 + 1 ∧ Below w7.heap.size w7 wr) (fun v _ => ((n1 : Int) + 2 - intOf v).toNat)
  case atStart => exact ⟨-1, rfl, by omega, by omega, Below.refl _ _⟩
  case round =>
    obtain ⟨z, rfl, hz0, hz2, hb⟩ := hrel
    have hB := below_two hB7 hb
    have e0 := cell_keep c0 hB
    by_cases hlt : z ≤ n1
    · have hdz : decide (z ≤ (n1 : Int)) = true := decide_eq_true hlt
      have hsl := HSs.out z
      go_wp2_with fail
      refine (HSet.out z wr (hd.below hB)).mono ?_
      rintro e wa ⟨A, n, c, rfl, hoa, hba⟩
      have hla : (d.setI z).length = n := by have := hoa.len; rw [List.length_map] at this; exact this
      go_wp2_with fail
      refine (HvS.out z wa (hr.below (below_two hB hba))).mono ?_
      rintro e wb ⟨A', n', c', rfl, hob, hbb⟩
      have hlb : (d.setI z).length = n' := by have := hob.len; rw [List.length_map] at this; exact this
      obtain rfl : n' = n := by omega
      have hoa2 := hoa.below hbb
      have hnb : n' ≤ 1114112 := by omega
      have HSm := sSame_any A A' n' c n' c' (d.setI z) (d.setI z) wb (hoa2.rd (by omega)) (hob.rd (by omega)) hla hlb (by unfold maxLen; omega) (by unfold maxLen; omega)
      rw [decide_eq_true (rfl : d.setI z = d.setI z)] at HSm
      replace HSm := Lib.hid HSm
      have hbw := below_two hba hbb
      have Hla := Lib.hid hla
      clear hla hlb hob
      go_wp2_with fail
      refine HSm.out.mono ?_
      rintro e wc ⟨rfl, k, rfl⟩
      have hoc := hoa2.drewN k
      have hbc := below_drewN hbw k
      clear hoa hoa2 hbw HSm hba hbb
      go_wp2_with fail
      go_loopw [11] (fun v wq => ∃ (j : Nat) (l' : List (Int × Int)), v = .int .i64 j ∧ j ≤ n' ∧ Own wq wr.heap.size 80 2 A n' c (l'.map encR) ∧ Below wr.heap.size wr wq) (fun v _ => n' - (intOf v).toNat)
      case atStart => exact ⟨0, d.setI z, rfl, by omega, hoc, hbc⟩
      case round =>
        clear hoc hbc e0
        obtain ⟨j, l', rfl, hj, hol, hbq⟩ := hrel
        have hll : l'.length = n' := by simpa using hol.len
        by_cases hlj : j < n'
        · obtain ⟨g, rfl, hgB, _⟩ := hol.form (by omega)
          obtain ⟨y, hy⟩ : ∃ y, l'[j]? = some y := ⟨_, List.getElem?_eq_getElem (show j < l'.length by omega)⟩
          have ⟨hy1, hy2⟩ := hol.cellR hy
          have hf1 := hol.frozen (j * 2)
          have hf2 := hol.frozen (j * 2 + 1)
          have hjl : j < l'.length := by omega
          have hll2 := Lib.hid hll
          clear hll hy
          go_wp2
          go_roundw
          case rel => exact ⟨j + 1, l'.set j (0, 0), by go_num, by omega, hol.storedR hjl 0 0, (hbq.setCell hgB _).setCell hgB _⟩
          case measure => simp [intOf]; omega
        · clear hll
          go_wp2
          go_roundw
          case rel => exact ⟨z + 1, by go_num, by omega, by omega, below_two hb hbq⟩
          case measure => simp [intOf]; omega
    · have hdz : decide (z ≤ (n1 : Int)) = false := decide_eq_false hlt
      have hn2 := hn1.below hb
      have hg2 := hg1.below hb
      clear hn1 hg1
      go_wp2_with fail
      go_loopw [12] (fun v wq => ∃ (i : Nat) (M : List (List UInt8)), v = .int .i64 i ∧ i ≤ n1 ∧ Own wq w.heap.size 9 1 A1 n1 c1 (M.map encNm) ∧ Own wq w1.heap.size 82 3 A2 n4 c2 (d.rng.map encD) ∧ Below w.heap.size w wq) (fun v _ => n1 - (intOf v).toNat)
      case atStart => exact ⟨0, d.names, rfl, by omega, hn2, hg2, hB⟩
      case round =>
        clear hn2 hg2 hB e0 hdz hb
        obtain ⟨i, M, rfl, hi, hnm, hgm, hB⟩ := hrel
        have e0 := cell_keep c0 hB
        by_cases hlt : i < n1
        · obtain ⟨y, Hy⟩ : ∃ y, Hid (d.names[i]? = some y) := ⟨_, Lib.hid (List.getElem?_eq_getElem (show i < d.names.length by have := Hln.out; omega))⟩
          obtain ⟨b, off, rfl, hc0⟩ := HRn.out.atS Hy.out
          have hc := cell_keep hc0 hB
          have HC := HClass.out y wr (hd.below hB) (by have := HNl.out y (List.mem_of_getElem? Hy.out); omega)
          rw [HNum.out i y Hy.out] at HC
          replace HC := Lib.hid HC
          obtain ⟨g, rfl, hgB, _⟩ := hnm.form (by omega)
          have hMl : M.length = n1 := by simpa using hnm.len
          obtain ⟨u, hu⟩ : ∃ u, M[i]? = some u := ⟨_, List.getElem?_eq_getElem (show i < M.length by omega)⟩
          have hu1 := hnm.cellNm hu
          have hf1 := hnm.frozen i
          have hiM : i < M.length := by omega
          have hap := hnm.apart hgm (by decide)
          clear hMl hu
          go_wp2_with fail
          refine HC.out.mono ?_
          rintro e w' ⟨rfl, rfl⟩
          go_wp2
          go_roundw
          case rel => exact ⟨i + 1, M.set i [63], by go_num, by omega, hnm.storedNm hiM [63], hgm.setCell (p := ⟨g, i, none⟩) (fun a ha e => hap ⟨g, 0, none⟩ a rfl ha e.symm) _, hB.setCell (p := ⟨g, i, none⟩) hgB _⟩
          case measure => simp [intOf]; omega
        · go_wp2_with fail
          go_loopw [15] (fun v wq => ∃ (i : Nat) (G : List (Int × Int × Nat)), v = .int .i64 i ∧ i ≤ n4 ∧ Own wq w1.heap.size 82 3 A2 n4 c2 (G.map encD) ∧ Below w.heap.size w wq) (fun v _ => n4 - (intOf v).toNat)
          case atStart => exact ⟨0, d.rng, rfl, by omega, hgm, hB⟩
          case round =>
            clear hnm hgm hB e0
            obtain ⟨i, G, rfl, hi, hgm, hB⟩ := hrel
            by_cases hlt : i < n4
            · obtain ⟨g, rfl, hgB, _⟩ := hgm.form (by omega)
              have hGl : G.length = n4 := by simpa using hgm.len
              obtain ⟨u, hu⟩ : ∃ u, G[i]? = some u := ⟨_, List.getElem?_eq_getElem (show i < G.length by omega)⟩
              have ⟨hu1, hu2, hu3⟩ := hgm.cellD hu
              have hf1 := hgm.frozen (i * 3)
              have hf2 := hgm.frozen (i * 3 + 1)
              have hf3 := hgm.frozen (i * 3 + 2)
              have hiM : i < G.length := by omega
              have hgB' : w.heap.size ≤ g := by omega
              clear hGl hu
              go_wp2
              go_roundw
              case rel => exact ⟨i + 1, G.set i (0, 0, 0), by go_num, by omega, hgm.storedD hiM (0, 0, 0), ((hB.setCell hgB' _).setCell hgB' _).setCell hgB' _⟩
              case measure => simp [intOf]; omega
            · go_wp2_with fail
              go_loopw [16] (fun v wq => ∃ i : Nat, v = .int .i64 i ∧ i ≤ nq ∧ Below w.heap.size w wq) (fun v _ => nq - (intOf v).toNat)
              case atStart => exact ⟨0, rfl, by omega, hB⟩
              case round =>
                clear hgm hB
                obtain ⟨i, rfl, hi, hB⟩ := hrel
                by_cases hlt : i < nq
                · obtain ⟨qb, qo, r, rfl, Hr, hq0⟩ := hq.at1 (k := i) (by rw [Hql.out]; exact hlt)
                  have hc := cell_keep hq0 hB
                  have hdr := hd.below hB
                  have hrr := hr.below hB
                  have HG1 := Lib.hid (fun W h => HGet.out r W h)
                  have HG2 := Lib.hid (fun W h => HvG.out r W h)
                  generalize ((d.get r : Nat) : Int) = G at HG1 HG2
                  have hGG : (G != G) = false := by simp
                  go_wp2_with fail
                  go_region_held3 (fun W => W.cell? ⟨qb, qo + i, none⟩ = some (.int .i32 r) ∧ Below wr.heap.size wr W)
                    (first | exact ⟨hcz, hBz⟩ | exact ⟨hc, Below.refl _ _⟩ | exact ⟨hc, below_drewN (Below.refl _ _) 1⟩)
                    (first
                      | (go_at_call 22; go_split_ands; refine (HG1.out _ (hdr.below (by assumption))).mono ?_; rintro e wz ⟨rfl, hz⟩; have hBz := below_two (by assumption) hz; have hcz := cell_keep hc hBz)
                      | (go_at_call 46; go_split_ands; refine (HG2.out _ (hrr.below (by assumption))).mono ?_; rintro e wz ⟨rfl, hz⟩; subst hz))
                  go_wp2
                  go_roundw
                  case rel => exact ⟨i + 1, by go_num, by omega, below_two hB hBz⟩
                  case measure => simp [intOf]; omega
                · have HC := HClass.out [] wr (hd.below hB) (by simp)
                  rw [HNE.out] at HC
                  replace HC := Lib.hid HC
                  have e0 := cell_keep c0 hB
                  go_wp2_with fail
                  refine HC.out.mono ?_
                  rintro e w' ⟨rfl, rfl⟩
                  clear HC
                  go_wp2_with fail
                  go_region_held3 (fun W => W.cell? ⟨pr, 0, none⟩ = some (.slice An n1 cn) ∧ Below w.heap.size w W)
                    (first | exact ⟨kd, Bd⟩ | exact ⟨kc, Bc⟩ | exact ⟨kb, Bb⟩ | exact ⟨ka, Ba⟩ | exact ⟨e0, hB⟩ | exact ⟨e0, below_drewN hB 1⟩)
                    (first
                      | (go_at_call 17; go_split_ands; refine (HNames.out _ (hd.below (by assumption))).mono ?_; rintro e wa ⟨A5, n5, c5, rfl, ho5, hb5⟩; have Ba := below_two (by assumption) hb5; have ka := cell_keep c0 Ba; have hn5 : n1 = n5 := (by have := ho5.len; rw [List.length_map] at this; have := Hln.out; omega); subst hn5)
                      | (go_at_call 24; go_split_ands; refine (qtexts_any _ An n1 _ cn d.names _ (ho5.rd (by decide)) (HRn.out.below (by assumption)) Hln.out (by omega)).mono ?_; rintro e wb ⟨rfl, kq, rfl⟩; have Bb := below_drewN Ba kq; have kb := cell_keep c0 Bb)
                      | (go_at_call 23; go_split_ands; refine (HText.out _ (hd.below (by assumption)) (cell_keep hT (by assumption))).mono ?_; rintro e wc ⟨rfl, hbc⟩; have Bc := below_two (by assumption) hbc; have kc := cell_keep c0 Bc)
                      | (go_at_call 44; go_split_ands; refine (HvT.out _ (hr.below (by assumption))).mono ?_; rintro e wd ⟨rfl, hbd⟩; have Bd := below_two (by assumption) hbd; have kd := cell_keep c0 Bd))
                  go_wp2
                  go_ret
                  exact ⟨rfl, Bd⟩
end Go.Proofs.YtejccafolfeabaaGreatDoor

/-
  kerfref04: Name, walked.
-/
namespace Go.Proofs.YtejccafolfeabaaGreatDoor
open Go.RowKit Go.Maps

set_option maxRecDepth 100000 in
set_option maxHeartbeats 4000000 in
theorem vName_any (l : List UInt8) (w : World) (hs : l.length ≤ 9223372036854775807) : Calls Tryz.prog 11 #[.string (bytesOf l)] w fun e w' => e = .returned (.bool (nameL l)) ∧ Below w.heap.size w w' := by
  have hsz : (bytesOf l).size = l.length := bytesOf_size l
  go_enter Tryz.func11, Tryz.ntmps11
  go_wp2
  have hbw : Below w.heap.size w w := Below.refl _ _
  go_loop [3] (fun i => ∃ k : Nat, i = .int .i64 k ∧ k ≤ l.length ∧ Hid (nameU (l.take k) = true)) (fun i => l.length - (intOf i).toNat)
  case atStart => exact ⟨0, rfl, by omega, rfl⟩
  case round =>
    obtain ⟨k, rfl, hk, Hm⟩ := hrel
    by_cases hlt : k < l.length
    · have hkl : k < (bytesOf l).size := by rw [hsz]; exact hlt
      have hc := index_at (bytesOf l) k k rfl hkl
      obtain ⟨c, hce⟩ : ∃ c, (bytesOf l)[k]'hkl = c := ⟨_, rfl⟩
      have Hc : Hid (l[k]? = some c) := Lib.hid (by have := get_list hkl; rw [bytesOf_list, hce] at this; exact this)
      have hcc : (((bytesOf l)[k]'hkl).toNat : Int) = (c.toNat : Int) := by rw [hce]
      rw [hce] at hc
      clear hce
      have HN := Lib.hid (nameU_next Hc.out Hm.out)
      have HE : Hid (nameU (l.take (k + 1)) = false → nameL l = false) := Lib.hid (fun h => by rw [nameL_eq, nameU_take h, Bool.false_and])
      have hc0 : 0 ≤ (c.toNat : Int) := by omega
      have hc255 : (c.toNat : Int) ≤ 255 := by have := c.toNat_lt; omega
      have HLT : Hid ((65 ≤ (c.toNat : Int) ∧ (c.toNat : Int) ≤ 90) ∨ (97 ≤ (c.toNat : Int) ∧ (c.toNat : Int) ≤ 122) → letB c = true ∧ partB c = true) := Lib.hid (fun h => ⟨letB_t (by omega), partB_t (by omega)⟩)
      have HLF : Hid (¬ ((65 ≤ (c.toNat : Int) ∧ (c.toNat : Int) ≤ 90) ∨ (97 ≤ (c.toNat : Int) ∧ (c.toNat : Int) ≤ 122)) → letB c = false) := Lib.hid (fun h => letB_f (by omega))
      have HPT : Hid ((48 ≤ (c.toNat : Int) ∧ (c.toNat : Int) ≤ 57) ∨ (c.toNat : Int) = 95 → partB c = true) := Lib.hid (fun h => partB_t (by omega))
      have HPF : Hid (¬ ((65 ≤ (c.toNat : Int) ∧ (c.toNat : Int) ≤ 90) ∨ (97 ≤ (c.toNat : Int) ∧ (c.toNat : Int) ≤ 122) ∨ (48 ≤ (c.toNat : Int) ∧ (c.toNat : Int) ≤ 57) ∨ (c.toNat : Int) = 95) → partB c = false) := Lib.hid (fun h => partB_f (by omega))
      generalize (c.toNat : Int) = z at hc hcc hc0 hc255 HLT HLF HPT HPF
      rcases Nat.eq_zero_or_pos k with rfl | h0
      · rcases (by omega : (65 ≤ z ∧ z ≤ 90) ∨ (97 ≤ z ∧ z ≤ 122) ∨ (z < 65 ∨ (90 < z ∧ z < 97) ∨ 122 < z)) with ⟨hq, hq'⟩ | ⟨hq, hq'⟩ | hq
        iterate 2
          · have HV : Hid (nameU (l.take (0 + 1)) = true) := Lib.hid (by rw [HN.out, if_pos rfl]; exact (HLT.out (by omega)).1)
            clear HLT HLF HPT HPF HN HE
            try first | (have d65 : decide (65 ≤ z) = true := decide_eq_true (by omega)) | (have d65 : decide (65 ≤ z) = false := decide_eq_false (by omega))
            try first | (have d90 : decide (z ≤ 90) = true := decide_eq_true (by omega)) | (have d90 : decide (z ≤ 90) = false := decide_eq_false (by omega))
            try first | (have d97 : decide (97 ≤ z) = true := decide_eq_true (by omega)) | (have d97 : decide (97 ≤ z) = false := decide_eq_false (by omega))
            try first | (have d122 : decide (z ≤ 122) = true := decide_eq_true (by omega)) | (have d122 : decide (z ≤ 122) = false := decide_eq_false (by omega))
            try first | (have d48 : decide (z < 48) = true := decide_eq_true (by omega)) | (have d48 : decide (z < 48) = false := decide_eq_false (by omega))
            try first | (have d57 : decide (57 < z) = true := decide_eq_true (by omega)) | (have d57 : decide (57 < z) = false := decide_eq_false (by omega))
            try first | (have d95 : (z != 95) = true := bne_iff_ne.2 (by omega)) | (have d95 : (z != 95) = false := by rw [bne_eq_false_iff_eq]; omega)
            go_wp2
            refine ⟨⟨0 + 1, by go_num, by omega, HV⟩, ?_⟩
            simp [intOf]; omega
        · have HV : Hid (nameL l = false) := Lib.hid (HE.out (by rw [HN.out, if_pos rfl]; exact HLF.out (by omega)))
          clear HLT HLF HPT HPF HN HE
          rcases hq with hq | ⟨hq, hq'⟩ | hq
          all_goals
            try first | (have d65 : decide (65 ≤ z) = true := decide_eq_true (by omega)) | (have d65 : decide (65 ≤ z) = false := decide_eq_false (by omega))
            try first | (have d90 : decide (z ≤ 90) = true := decide_eq_true (by omega)) | (have d90 : decide (z ≤ 90) = false := decide_eq_false (by omega))
            try first | (have d97 : decide (97 ≤ z) = true := decide_eq_true (by omega)) | (have d97 : decide (97 ≤ z) = false := decide_eq_false (by omega))
            try first | (have d122 : decide (z ≤ 122) = true := decide_eq_true (by omega)) | (have d122 : decide (z ≤ 122) = false := decide_eq_false (by omega))
            try first | (have d48 : decide (z < 48) = true := decide_eq_true (by omega)) | (have d48 : decide (z < 48) = false := decide_eq_false (by omega))
            try first | (have d57 : decide (57 < z) = true := decide_eq_true (by omega)) | (have d57 : decide (57 < z) = false := decide_eq_false (by omega))
            try first | (have d95 : (z != 95) = true := bne_iff_ne.2 (by omega)) | (have d95 : (z != 95) = false := by rw [bne_eq_false_iff_eq]; omega)
            go_wp2
            go_ret
            exact ⟨by rw [HV.out]; rfl, hbw⟩
      · have hk0 : ((k : Int) == 0) = false := beq_eq_false_iff_ne.2 (by omega)
        rcases (by omega : (65 ≤ z ∧ z ≤ 90) ∨ (97 ≤ z ∧ z ≤ 122) ∨ (48 ≤ z ∧ z ≤ 57) ∨ z = 95 ∨ (z < 48 ∨ (57 < z ∧ z < 65) ∨ (90 < z ∧ z < 95) ∨ z = 96 ∨ 122 < z)) with ⟨hq, hq'⟩ | ⟨hq, hq'⟩ | ⟨hq, hq'⟩ | hq | hq
        iterate 4
          · have HV : Hid (nameU (l.take (k + 1)) = true) := Lib.hid (by rw [HN.out, if_neg (by omega)]; first | exact (HLT.out (by omega)).2 | exact HPT.out (by omega))
            clear HLT HLF HPT HPF HN HE
            try first | (have d65 : decide (65 ≤ z) = true := decide_eq_true (by omega)) | (have d65 : decide (65 ≤ z) = false := decide_eq_false (by omega))
            try first | (have d90 : decide (z ≤ 90) = true := decide_eq_true (by omega)) | (have d90 : decide (z ≤ 90) = false := decide_eq_false (by omega))
            try first | (have d97 : decide (97 ≤ z) = true := decide_eq_true (by omega)) | (have d97 : decide (97 ≤ z) = false := decide_eq_false (by omega))
            try first | (have d122 : decide (z ≤ 122) = true := decide_eq_true (by omega)) | (have d122 : decide (z ≤ 122) = false := decide_eq_false (by omega))
            try first | (have d48 : decide (z < 48) = true := decide_eq_true (by omega)) | (have d48 : decide (z < 48) = false := decide_eq_false (by omega))
            try first | (have d57 : decide (57 < z) = true := decide_eq_true (by omega)) | (have d57 : decide (57 < z) = false := decide_eq_false (by omega))
            try first | (have d95 : (z != 95) = true := bne_iff_ne.2 (by omega)) | (have d95 : (z != 95) = false := by rw [bne_eq_false_iff_eq]; omega)
            go_wp2
            refine ⟨⟨k + 1, by go_num, by omega, HV⟩, ?_⟩
            simp [intOf]; omega
        · have HV : Hid (nameL l = false) := Lib.hid (HE.out (by rw [HN.out, if_neg (by omega)]; exact HPF.out (by omega)))
          clear HLT HLF HPT HPF HN HE
          rcases hq with hq | ⟨hq, hq'⟩ | ⟨hq, hq'⟩ | hq | hq
          all_goals
            try first | (have d65 : decide (65 ≤ z) = true := decide_eq_true (by omega)) | (have d65 : decide (65 ≤ z) = false := decide_eq_false (by omega))
            try first | (have d90 : decide (z ≤ 90) = true := decide_eq_true (by omega)) | (have d90 : decide (z ≤ 90) = false := decide_eq_false (by omega))
            try first | (have d97 : decide (97 ≤ z) = true := decide_eq_true (by omega)) | (have d97 : decide (97 ≤ z) = false := decide_eq_false (by omega))
            try first | (have d122 : decide (z ≤ 122) = true := decide_eq_true (by omega)) | (have d122 : decide (z ≤ 122) = false := decide_eq_false (by omega))
            try first | (have d48 : decide (z < 48) = true := decide_eq_true (by omega)) | (have d48 : decide (z < 48) = false := decide_eq_false (by omega))
            try first | (have d57 : decide (57 < z) = true := decide_eq_true (by omega)) | (have d57 : decide (57 < z) = false := decide_eq_false (by omega))
            try first | (have d95 : (z != 95) = true := bne_iff_ne.2 (by omega)) | (have d95 : (z != 95) = false := by rw [bne_eq_false_iff_eq]; omega)
            go_wp2
            go_ret
            exact ⟨by rw [HV.out]; rfl, hbw⟩
    · have HE : Hid (nameL l = decide (1 ≤ l.length ∧ l.length ≤ 32)) := Lib.hid (by rw [nameL_eq, show nameU l = true by have := Hm.out; rwa [List.take_of_length_le (by omega)] at this, Bool.true_and])
      rcases (by omega : l.length = 0 ∨ (1 ≤ l.length ∧ l.length ≤ 32) ∨ 32 < l.length) with h | ⟨h, h'⟩ | h
      all_goals
        go_wp2
        go_ret
        exact ⟨ret_bool (by rw [HE.out]; first | exact (decide_eq_false (by omega)).symm | exact (decide_eq_true (by omega)).symm | (rw [decide_eq_decide]; omega)), hbw⟩

end Go.Proofs.YtejccafolfeabaaGreatDoor

/-
  kerfref04: cut, Class, meet, walked.
-/
namespace Go.Proofs.YtejccafolfeabaaGreatDoor
open Go.RowKit Go.Maps

theorem ret_pair {a b c d : Value} (h1 : a = c) (h2 : b = d) : Ending.returned (.tuple #[a, b]) = .returned (.tuple #[c, d]) := by rw [h1, h2]
set_option maxRecDepth 100000 in
set_option maxHeartbeats 2000000 in
theorem vcut_any (L : List UInt8) (w : World) (hL : L.length ≤ 1000000) :
    Calls Tryz.prog 77 #[.string (bytesOf L)] w fun e w' => e = .returned (.tuple #[.string (bytesOf (L.take (hashP L))), .int .i64 (fv (findP 59 (L.take (hashP L))))]) ∧ Below w.heap.size w w' := by
  have HIS := Lib.hid (cutD_is L)
  have hsz : (bytesOf L).size = L.length := bytesOf_size L
  go_enter Tryz.func77, Tryz.ntmps77
  go_wp2
  go_loopw [4, 5] (fun a v wr => ∃ (semi : Option Nat) (i : Nat), a = .int .i64 (fv semi) ∧ v = .int .i64 i ∧ i ≤ L.length ∧ Hid (CutAt L i semi) ∧ Below w.heap.size w wr) (fun _ v _ => L.length - (intOf v).toNat)
  case atStart => exact ⟨none, 0, rfl, rfl, by omega, cutAt_first L, Below.refl _ _⟩
  case round =>
    obtain ⟨semi, i, rfl, rfl, hi, HC, hb⟩ := hrel
    by_cases hlt : i < L.length
    · have HQ := Lib.hid (sQuoted_any (bytesOf L) i wr (by omega) (by omega))
      have hqq := quoted_qt (bytesOf L) i (by omega)
      rw [bytesOf_list] at hqq
      have hp : i < (bytesOf L).size := by omega
      have hix := index_at (bytesOf L) i i rfl hp
      obtain ⟨x, hx⟩ : ∃ x, (bytesOf L)[i]'hp = x := ⟨_, rfl⟩
      have Hx : Hid (L[i]? = some x) := Lib.hid (by have := get_list hp; rw [bytesOf_list, hx] at this; exact this)
      have hgi : (((bytesOf L)[i]'hp).toNat : Int) = (x.toNat : Int) := by rw [hx]
      rw [hx] at hix
      clear hx
      cases hq : qtL (L.drop i) with
      | some k =>
        rw [hq] at hqq
        obtain ⟨q1, q2⟩ := hqq
        have HC' := Lib.hid (cutAt_qt HC.out hq)
        have hik : i + k ≤ L.length := HC'.out.1
        generalize quotedP (bytesOf L) i = Q at HQ q1 q2
        obtain ⟨r, wd, ok⟩ := Q
        simp only at q1 q2
        subst q1
        have hk3 := (qtL_some hq).1
        clear hq
        go_wp2_with (go_at_call 112; refine HQ.out.mono ?_; rintro e w2 ⟨rfl, hb2⟩)
        go_roundw
        case rel => exact ⟨semi, i + k, rfl, by go_num, hik, HC', below_step hb hb2 hb.size⟩
        case measure => simp [intOf]; omega
      | none =>
        rw [hq] at hqq
        generalize quotedP (bytesOf L) i = Q at HQ hqq
        obtain ⟨r, wd, ok⟩ := Q
        simp only at hqq
        subst hqq
        have h35 : x = 35 ↔ (x.toNat : Int) = 35 := by have h1 : x = 35 ↔ x.toNat = 35 := u8_eq (n := 35) (by omega); rw [h1]; omega
        have h59 : x = 59 ↔ (x.toNat : Int) = 59 := by have h1 : x = 59 ↔ x.toNat = 59 := u8_eq (n := 59) (by omega); rw [h1]; omega
        have HH := Lib.hid (fun h => cutAt_hash HC.out Hx.out hq (h35.2 h))
        have HS := Lib.hid (fun h hs => cutAt_semi HC.out Hx.out hq (h59.2 h) hs)
        have HGo := Lib.hid (fun (h : ¬ (x.toNat : Int) = 35) (hs : ¬ ((x.toNat : Int) = 59 ∧ semi = none)) => cutAt_go HC.out Hx.out hq (fun k => h (h35.1 k)) (fun k => hs ⟨h59.1 k.1, k.2⟩))
        generalize (x.toNat : Int) = z at hix hgi HH HS HGo
        clear h35 h59 hq
        rcases (by omega : z = 35 ∨ z = 59 ∨ (z ≠ 35 ∧ z ≠ 59)) with hz | hz | ⟨hz, hz'⟩
        · have HE := HH.out hz
          rw [HIS.out] at HE
          injection HE with HE1 HE2
          have HE1 := Lib.hid HE1
          have HE2 := Lib.hid HE2
          have hzz : (z == 35) = true := by rw [hz]; rfl
          clear hz HH HS HGo
          go_wp2_with (go_at_call 112; refine HQ.out.mono ?_; rintro e w2 ⟨rfl, hb2⟩)
          go_ret2
          have h1 := ext_bytes0 L i
          rw [← HE1.out] at h1
          exact ⟨ret_pair (congrArg Value.string (by first | exact h1 | (rw [HE1.out] at h1 ⊢; exact h1) | rfl)) (congrArg (Value.int .i64) (by rw [HE2.out])), below_step hb hb2 hb.size⟩
        · have hzz : (z == 35) = false := by rw [hz]; rfl
          have hzy : (z == 59) = true := by rw [hz]; rfl
          cases semi with
          | none =>
            have HC' := Lib.hid (HS.out hz rfl)
            have hfn : decide (fv none < 0) = true := rfl
            clear hz HH HS HGo
            go_wp2_with (go_at_call 112; refine HQ.out.mono ?_; rintro e w2 ⟨rfl, hb2⟩)
            go_roundw
            case rel => exact ⟨some i, i + 1, rfl, by go_num, by omega, HC', below_step hb hb2 hb.size⟩
            case measure => simp [intOf]; omega
          | some k =>
            have HC' := Lib.hid (HGo.out (by omega) (fun h => by cases h.2))
            have hfn : decide (fv (some k) < 0) = false := decide_eq_false (by simp only [fv]; omega)
            clear hz HH HS HGo
            go_wp2_with (go_at_call 112; refine HQ.out.mono ?_; rintro e w2 ⟨rfl, hb2⟩)
            go_roundw
            case rel => exact ⟨some k, i + 1, rfl, by go_num, by omega, HC', below_step hb hb2 hb.size⟩
            case measure => simp [intOf]; omega
        · have hzz : (z == 35) = false := beq_eq_false_iff_ne.2 hz
          have hzy : (z == 59) = false := beq_eq_false_iff_ne.2 hz'
          have HC' := Lib.hid (HGo.out hz (fun h => hz' h.1))
          clear hz hz' HH HS HGo
          go_wp2_with (go_at_call 112; refine HQ.out.mono ?_; rintro e w2 ⟨rfl, hb2⟩)
          go_roundw
          case rel => exact ⟨semi, i + 1, rfl, by go_num, by omega, HC', below_step hb hb2 hb.size⟩
          case measure => simp [intOf]; omega
    · have HE := cutAt_end HC.out hlt
      rw [HIS.out] at HE
      injection HE with HE1 HE2
      have HE1 := Lib.hid HE1
      have HE2 := Lib.hid HE2
      go_wp2
      go_ret2
      exact ⟨ret_pair (congrArg Value.string (by rw [HE1.out, List.take_length]; try rfl)) (by rw [HE2.out]; try rfl), hb⟩
end Go.Proofs.YtejccafolfeabaaGreatDoor

/-
  kerfref04: meet, walked.
-/
namespace Go.Proofs.YtejccafolfeabaaGreatDoor
open Go.RowKit Go.Maps

def hitR (x y : Int × Int) : Bool := decide (x.1 ≤ y.2) && decide (y.1 ≤ x.2)
theorem meetB_any (a b : List (Int × Int)) : meetB a b = a.any fun x => b.any fun y => hitR x y := rfl
theorem any_next {α : Type} {l : List α} {i : Nat} {x : α} {f : α → Bool} (h : (l.take i).any f = false) (hx : l[i]? = some x) (hf : f x = false) : (l.take (i + 1)).any f = false := by
  rw [List.take_add_one, hx]; simp [List.any_append, h, hf]
theorem any_hit {α : Type} {l : List α} {i : Nat} {x : α} {f : α → Bool} (hx : l[i]? = some x) (hf : f x = true) : l.any f = true := List.any_eq_true.2 ⟨x, List.mem_of_getElem? hx, hf⟩
theorem any_all {α : Type} {l : List α} {i : Nat} {f : α → Bool} (h : (l.take i).any f = false) (hi : ¬ i < l.length) : l.any f = false := by rwa [List.take_of_length_le (by omega)] at h
set_option maxRecDepth 100000 in
set_option maxHeartbeats 2000000 in
theorem vmeet_any (A B : Option Addr) (n c m e : Nat) (l q : List (Int × Int)) (w : World) (hA : Rd w 2 A (l.map encR)) (hB : Rd w 2 B (q.map encR)) (hl : l.length = n) (hq : q.length = m) (hn : n ≤ 4000000) (hm : m ≤ 4000000) :
    Calls Tryz.prog 81 #[.slice A n c, .slice B m e] w fun e w' => e = .returned (.bool (meetB l q)) ∧ ∃ k, w' = w.drewN k := by
  have Hl := Lib.hid hl
  have Hq := Lib.hid hq
  have HMB := Lib.hid (meetB_any l q)
  go_enter Tryz.func81, Tryz.ntmps81
  go_wp2
  go_loopw [5] (fun v wr => ∃ i k : Nat, v = .int .i64 i ∧ i ≤ n ∧ Hid ((l.take i).any (fun x => q.any fun y => hitR x y) = false) ∧ wr = w.drewN k) (fun v _ => n - (intOf v).toNat)
  case atStart => exact ⟨0, 0, rfl, by omega, by simp [Hid], rfl⟩
  case round =>
    obtain ⟨i, k, rfl, hi, HI, rfl⟩ := hrel
    by_cases hlt : i < n
    · obtain ⟨bA, oA, x1, x2, rfl, Hx, hx1, hx2⟩ := hA.atR (k := i) (by have := Hl.out; omega)
      have hdi : decide (i < n) = true := decide_eq_true hlt
      go_wp2_with fail
      go_loopw [6] (fun v wr => ∃ j k2 : Nat, v = .int .i64 j ∧ j ≤ m ∧ Hid ((q.take j).any (fun y => hitR (x1, x2) y) = false) ∧ wr = w.drewN k2) (fun v _ => m - (intOf v).toNat)
      case atStart => exact ⟨0, k, rfl, by omega, by simp [Hid], rfl⟩
      case round =>
        obtain ⟨j, k2, rfl, hj, HJ, rfl⟩ := hrel
        by_cases hltj : j < m
        · obtain ⟨bB, oB, y1, y2, rfl, Hy, hy1, hy2⟩ := hB.atR (k := j) (by have := Hq.out; omega)
          rcases (by omega : ¬ x1 ≤ y2 ∨ (x1 ≤ y2 ∧ ¬ y1 ≤ x2) ∨ (x1 ≤ y2 ∧ y1 ≤ x2)) with h1 | ⟨h1, h2⟩ | ⟨h1, h2⟩
          · have HJ' := Lib.hid (any_next HJ.out Hy.out (show hitR (x1, x2) (y1, y2) = false by simp [hitR, h1]))
            have hd1 : decide (x1 ≤ y2) = false := decide_eq_false h1
            go_wp2_with fail
            go_quiet (fail)
            go_wp2
            go_roundw
            case rel => exact ⟨j + 1, _, by go_num, by omega, HJ', by first | rfl | exact World.drewN_drewN _ _ _⟩
            case measure => simp [intOf]; omega
          · have HJ' := Lib.hid (any_next HJ.out Hy.out (show hitR (x1, x2) (y1, y2) = false by simp [hitR, h2]))
            have hd1 : decide (x1 ≤ y2) = true := decide_eq_true h1
            have hd2 : decide (y1 ≤ x2) = false := decide_eq_false h2
            go_wp2_with fail
            go_quiet (fail)
            go_wp2
            go_roundw
            case rel => exact ⟨j + 1, _, by go_num, by omega, HJ', by first | rfl | exact World.drewN_drewN _ _ _⟩
            case measure => simp [intOf]; omega
          · have HE : Hid (meetB l q = true) := Lib.hid (by rw [HMB.out]; exact any_hit Hx.out (any_hit Hy.out (show hitR (x1, x2) (y1, y2) = true by simp [hitR, h1, h2])))
            have hd1 : decide (x1 ≤ y2) = true := decide_eq_true h1
            have hd2 : decide (y1 ≤ x2) = true := decide_eq_true h2
            go_wp2_with fail
            go_quiet (fail)
            go_wp2
            go_ret
            exact ⟨by rw [HE.out]; rfl, _, by first | rfl | exact World.drewN_drewN _ _ _⟩
        · have HI' := Lib.hid (any_next HI.out Hx.out (any_all HJ.out (show ¬ j < q.length by have := Hq.out; omega)))
          go_wp2
          go_roundw
          case rel => exact ⟨i + 1, k2, by go_num, by omega, HI', rfl⟩
          case measure => simp [intOf]; omega
    · have HE : Hid (meetB l q = false) := Lib.hid (by rw [HMB.out]; exact any_all HI.out (show ¬ i < l.length by have := Hl.out; omega))
      go_wp2
      go_ret
      exact ⟨by rw [HE.out]; rfl, k, rfl⟩
end Go.Proofs.YtejccafolfeabaaGreatDoor

/-
  kerfref04: spaced, Lines, walked.
-/
namespace Go.Proofs.YtejccafolfeabaaGreatDoor
open Go.RowKit Go.Maps

/-- A block of bytes that can be written. -/
structure Byt (w : World) (b : Nat) (L : List UInt8) : Prop where
  cell : ∀ j (h : j < L.length), w.cell? ⟨b, j, none⟩ = some (.int .u8 ((L[j]'h).toNat : Int))
  free : ∀ j, j < L.length → w.frozen? ⟨b, j, none⟩ = false
theorem Byt.set_ {w : World} {b : Nat} {L : List UInt8} (h : Byt w b L) {i : Nat} (hi : i < L.length) (c : UInt8) (v : Int) (hv : v = (c.toNat : Int)) : Byt (w.setCell ⟨b, i, none⟩ (.int .u8 v)) b (L.set i c) := by
  subst hv
  refine ⟨fun j hj => ?_, fun j hj => ?_⟩
  · rw [List.length_set] at hj
    by_cases e : i = j
    · subst e
      rw [World.cell?_setCell_same _ _ _ (h.cell i hi)]; simp
    · rw [World.cell?_setCell_other _ _ _ _ (fun k => e (by injection k)), h.cell j hj]; simp [List.getElem_set_ne e]
  · rw [List.length_set] at hj
    rw [World.frozen?_setCell]; exact h.free j hj
theorem byt_world (w : World) (l : List UInt8) : Byt (Lib.bytesWorld w 5 (bytesOf l)) w.heap.size l := by
  refine ⟨fun j hj => ?_, fun j hj => ?_⟩
  · have h1 := Lib.bytesWorld_cell w 5 (bytesOf l) j (by rw [bytesOf_size]; exact hj)
    rw [bytesOf_list, List.getD_eq_getElem?_getD, List.getElem?_eq_getElem hj] at h1
    exact h1
  · unfold World.frozen?
    rw [Lib.bytesWorld_at_new]
    have hc : l.length ≤ (Lib.bytesCells w 5 (bytesOf l)).size := by
      simp [Lib.bytesCells]
      rw [bytesOf_size]; omega
    simp; omega
set_option maxRecDepth 100000 in
set_option maxHeartbeats 2000000 in
theorem vspaced_any (l : List UInt8) (w : World) (hs : l.length ≤ 1000000) : Calls Tryz.prog 80 #[.string (bytesOf l)] w fun e w' => e = .returned (.string (bytesOf (spcL l))) ∧ Below w.heap.size w w' := by
  have hcv := fun W => Lib.run_convert_string_bytes (P := Tryz.prog) W 9 66 5 (bytesOf l) Tryz.underlying9 Tryz.underlying66 Tryz.underlying5
  have hsz : (bytesOf l).size = l.length := bytesOf_size l
  have Hlen : Hid ((spcL l).length = l.length) := Lib.hid (by unfold spcL; rw [List.length_map])
  go_enter Tryz.func80, Tryz.ntmps80
  go_wp2
  have hby := byt_world w l
  have hbw := below_bytesWorld w 5 (bytesOf l)
  generalize Lib.bytesWorld w 5 (bytesOf l) = w1 at hby hbw ⊢
  clear hcv
  go_loopw [4] (fun v wr => ∃ i : Nat, v = .int .i64 i ∧ i ≤ l.length ∧ Byt wr w.heap.size ((spcL l).take i ++ l.drop i) ∧ Below w.heap.size w wr) (fun v _ => l.length - (intOf v).toNat)
  case atStart => exact ⟨0, rfl, by omega, by simpa using hby, hbw⟩
  case round =>
    clear hby hbw
    obtain ⟨i, rfl, hi, hB, hb⟩ := hrel
    have hll : ((spcL l).take i ++ l.drop i).length = l.length := by rw [List.length_append, List.length_take, List.length_drop, Hlen.out]; omega
    by_cases hlt : i < l.length
    · obtain ⟨x, Hx⟩ : ∃ x, Hid (l[i]? = some x) := ⟨_, Lib.hid (List.getElem?_eq_getElem hlt)⟩
      have hgx : ((spcL l).take i ++ l.drop i)[i]'(by omega) = x := by
        have h1 : ((spcL l).take i ++ l.drop i)[i]? = some x := by
          rw [List.getElem?_append_right (by rw [List.length_take, Hlen.out]; omega), List.length_take, Hlen.out, Nat.min_eq_left (by omega), Nat.sub_self, List.getElem?_drop]; exact Hx.out
        obtain ⟨_, h2⟩ := List.getElem?_eq_some_iff.1 h1
        exact h2
      have hc := hB.cell i (by omega)
      rw [hgx] at hc
      have hf := hB.free i (by omega)
      have hnext : ∀ y, y = (if x = 9 then 32 else x) → ((spcL l).take i ++ l.drop i).set i y = (spcL l).take (i + 1) ++ l.drop (i + 1) := fun y hy => by
        have h1 : (spcL l)[i]? = some y := by unfold spcL; rw [List.getElem?_map, Hx.out, hy]; rfl
        rw [drop_at Hx.out, List.take_add_one, h1]
        have h2 : ((spcL l).take i).length = i := by rw [List.length_take, Hlen.out]; omega
        have h3 := set_mid ((spcL l).take i) x y (l.drop (i + 1))
        rw [h2] at h3
        rw [h3]; simp
      by_cases hx9 : x = 9
      · have hz : ((x.toNat : Int) == 9) = true := by rw [hx9]; rfl
        have HN := Lib.hid (hnext 32 (by rw [if_pos hx9]))
        have HB := Lib.hid (hB.set_ (i := i) (by omega) 32 32 rfl)
        rw [HN.out] at HB
        clear hnext hx9 hgx
        go_wp2
        go_roundw
        case rel => exact ⟨i + 1, by go_num, by omega, HB.out, hb.setCell (p := ⟨w.heap.size, i, none⟩) (Nat.le_refl _) _⟩
        case measure => simp [intOf]; omega
      · have hz : ((x.toNat : Int) == 9) = false := beq_eq_false_iff_ne.2 (fun e => hx9 ((u8_eq (n := 9) (by omega)).2 (by omega)))
        have HN := Lib.hid (hnext x (by rw [if_neg hx9]))
        have hsame : ((spcL l).take i ++ l.drop i).set i x = (spcL l).take i ++ l.drop i := by
          conv => lhs; rw [← hgx]
          exact List.set_getElem_self _
        rw [hsame] at HN
        clear hnext hx9 hgx hsame
        go_wp2
        go_roundw
        case rel => exact ⟨i + 1, by go_num, by omega, by rw [← HN.out]; exact hB, hb⟩
        case measure => simp [intOf]; omega
    · have HE : Hid ((spcL l).take i ++ l.drop i = spcL l) := Lib.hid (by rw [List.take_of_length_le (by rw [Hlen.out]; omega), List.drop_of_length_le (by omega), List.append_nil])
      rw [HE.out] at hB
      have hcb := fun c => run_convert_bytes_back (P := Tryz.prog) wr 66 9 5 ⟨w.heap.size, 0, none⟩ c (spcL l) Tryz.underlying66 Tryz.underlying5 Tryz.underlying9 (fun k hk => by
        have e : (⟨w.heap.size, 0, none⟩ : Addr).add k = ⟨w.heap.size, k, none⟩ := by
          unfold Addr.add
          split
          · rename_i h0; rw [h0]
          · simp
        rw [e]; exact hB.cell k hk)
      rw [Hlen.out] at hcb
      go_wp2
      go_ret
      exact ⟨rfl, hb⟩
theorem take_sub {l : List UInt8} {a b : Nat} : (bytesOf l).extract a b = bytesOf ((l.drop a).take (b - a)) := ext_bytes2 l a b
set_option maxRecDepth 100000 in
set_option maxHeartbeats 2000000 in
theorem vLines_any (t : List UInt8) (w : World) (ht : t.length ≤ 1000000) :
    Calls Tryz.prog 39 #[.string (bytesOf t)] w fun e w' => ∃ A n c, e = .returned (.slice A n c) ∧ Own w' w.heap.size 9 1 A n c ((splitL t).map encNm) ∧ Below w.heap.size w w' := by
  obtain ⟨i0, hi0, hz0, hz1, hz2⟩ := info_parts info_cloneS
  have hsz : (bytesOf t).size = t.length := bytesOf_size t
  go_enter Tryz.func39, Tryz.ntmps39
  go_wp2
  go_loopw [3, 4, 5] (fun a f v wr => ∃ (i frm : Nat) (done : List (List UInt8)) (A : Option Addr) (n c : Nat), a = .slice A n c ∧ f = .int .i64 frm ∧ v = .int .i64 i ∧ i ≤ t.length ∧ n ≤ i ∧ frm ≤ i ∧ Hid (LinesAt t i frm done) ∧ Own wr w.heap.size 9 1 A n c (done.map encNm) ∧ Below w.heap.size w wr) (fun _ _ v _ => t.length - (intOf v).toNat)
  case atStart => exact ⟨0, 0, [], none, 0, 0, rfl, rfl, rfl, by omega, by omega, by omega, LinesAt.start t, Own.nil_ _ _ _ _, Below.refl _ _⟩
  case round =>
    obtain ⟨i, frm, done, A, n, c, rfl, rfl, rfl, hi, hni, hfi, HL, ho, hb⟩ := hrel
    have hszr := hb.size
    by_cases hlt : i < t.length
    · have hp : i < (bytesOf t).size := by omega
      have hix := index_at (bytesOf t) i i rfl hp
      obtain ⟨x, hx⟩ : ∃ x, (bytesOf t)[i]'hp = x := ⟨_, rfl⟩
      have Hx : Hid (t[i]? = some x) := Lib.hid (by have := get_list hp; rw [bytesOf_list, hx] at this; exact this)
      have hgi : (((bytesOf t)[i]'hp).toNat : Int) = (x.toNat : Int) := by rw [hx]
      rw [hx] at hix
      clear hx
      by_cases hx10 : x = 10
      · have hz : ((x.toNat : Int) == 10) = true := by rw [hx10]; rfl
        have HL' := Lib.hid (LinesAt.line HL.out (by rw [Hx.out, hx10]))
        have HX := Lib.hid (take_sub (l := t) (a := frm) (b := i))
        clear hx10
        go_wp2_with (at_builtin; go_must (refine wpList_app rfl (.tmp 16) (.tmp 21) _ rfl w.heap.size 9 i0 _ 1 16 Tryz.underlying35 hi0 hz0 hz1 hz2 rfl (by omega) A n c (done.map encNm) rfl (ho.alloc _) _ 1 1 [encNm ((t.drop frm).take (i - frm))] rfl rfl (Rd.newAt (by simp) (by simp [encNm, HX.out])) (encNm_ok [(t.drop frm).take (i - frm)]) (by unfold maxLen; omega) (by omega) (by simp; omega) ?_); intro A3 c3 w3 ho3 hg3 hA3; have hb3 := below_app (hb.alloc (by omega) _) hg3 (by simp; omega) (fun a ha => (ho.lt a ha).1); clear hg3)
        have Ho3 : Own w3 w.heap.size 9 1 A3 (n + 1) c3 ((done ++ [(t.drop frm).take (i - frm)]).map encNm) := by rw [List.map_append]; exact ho3
        clear ho3
        go_roundw
        case rel => exact ⟨i + 1, i + 1, _, A3, n + 1, c3, rfl, by go_num, by go_num, by omega, by omega, by omega, HL', Ho3, hb3⟩
        case measure => simp [intOf]; omega
      · have hz : ((x.toNat : Int) == 10) = false := beq_eq_false_iff_ne.2 (fun e => hx10 ((u8_eq (n := 10) (by omega)).2 (by omega)))
        have HL' := Lib.hid (LinesAt.byte HL.out Hx.out hx10)
        clear hx10
        go_wp2
        go_roundw
        case rel => exact ⟨i + 1, frm, done, A, n, c, rfl, rfl, by go_num, by omega, by omega, by omega, HL', ho, hb⟩
        case measure => simp [intOf]; omega
    · obtain rfl : i = t.length := by omega
      have HE := Lib.hid (LinesAt.done HL.out)
      have HX := Lib.hid (ext_bytes t frm)
      rw [hsz] at HX
      go_wp2_with (at_builtin; go_must (refine wpList_app rfl (.tmp 25) (.tmp 29) _ rfl w.heap.size 9 i0 _ 1 16 Tryz.underlying35 hi0 hz0 hz1 hz2 rfl (by omega) A n c (done.map encNm) rfl (ho.alloc _) _ 1 1 [encNm (t.drop frm)] rfl rfl (Rd.newAt (by simp) (by simp [encNm, HX.out])) (encNm_ok [t.drop frm]) (by unfold maxLen; omega) (by omega) (by simp; omega) ?_); intro A3 c3 w3 ho3 hg3 hA3; have hb3 := below_app (hb.alloc (by omega) _) hg3 (by simp; omega) (fun a ha => (ho.lt a ha).1); clear hg3)
      go_ret
      exact ⟨A3, n + 1, c3, rfl, by rw [HE.out, List.map_append]; exact ho3, hb3⟩
end Go.Proofs.YtejccafolfeabaaGreatDoor

/-
  kerfref04.(*Db).line, walked.
-/
namespace Go.Proofs.YtejccafolfeabaaGreatDoor
open Go.RowKit Go.Maps

/-- What a line leaves. -/
def LineEnd (base p x : Nat) (r : Except Int DbP) (e : Ending) (w' : World) : Prop :=
  match r with
  | .error k => e = .returned (.int .i64 k)
  | .ok d' => e = .returned (.int .i64 0) ∧ RfB w' base p x d'.names d'.sets
theorem LineEnd.err {base p x : Nat} {r : Except Int DbP} {k : Int} {w' : World} (h : r = .error k) : LineEnd base p x r (.returned (.int .i64 k)) w' := by rw [h]; exact rfl
theorem LineEnd.fine {base p x : Nat} {r : Except Int DbP} {d : DbP} {w' : World} (h : r = .ok d) (hd : RfB w' base p x d.names d.sets) : LineEnd base p x r (.returned (.int .i64 0)) w' := by rw [h]; exact ⟨rfl, hd⟩
theorem stepD_nil {d : DbP} {L : List UInt8} (h : trimL (L.take (hashP L)) = []) : stepL d L = .ok d := by
  rw [stepL_doc]; unfold lineD; simp only [h, if_true]
theorem stepD_add {d : DbP} {L : List UInt8} (h : trimL (L.take (hashP L)) ≠ []) : stepL d L = addS d (L.take (hashP L)) := by
  rw [stepL_doc]; unfold lineD addS; simp only [if_neg h]
  cases findP 59 (L.take (hashP L)) with
  | none => rfl
  | some j => rfl
theorem clash_one {d : DbP} {c : Nat} {l : List (Int × Int)} (h : d.Ok) : ClashAt d c l 1 := fun q hq hqc => by
  obtain rfl : q = 0 := by omega
  have := h.head'
  rw [List.head?_eq_getElem?] at this
  rw [List.getD_eq_getElem?_getD, this]; rfl

set_option maxRecDepth 100000 in
set_option maxHeartbeats 8000000 in
theorem vline_any (p base x : Nat) (d : DbP) (L : List UInt8) (w : World) (hd : RfB w base p x d.names d.sets) (ho : d.Ok) (hx : x < w.heap.size) (hB : base ≤ w.heap.size) (hL : L.length ≤ 65536) :
    Calls Tryz.prog 40 #[.pointer (some ⟨p, 0, none⟩), .string (bytesOf L)] w fun e w' => KX base x w w' ∧ LineEnd base p x (stepL d L) e w' := by
  obtain ⟨An, nn, cn, As, ns, cs, xs, hX⟩ := hd.ex
  have hns0 : nn = ns := by have := ho.len; have h1 := hX.lenN; have h2 := hX.lenS; omega
  subst hns0
  obtain ⟨is1, his1, hzs1, hzs2, hzs3⟩ := info_parts info_cloneS
  obtain ⟨iz1, hiz1, hzz1, hzz2, hzz3⟩ := info_parts (show (Tryz.prog.info? 37).map (fun i => (i.zero, i.size, i.bytes)) = some (some (.slice none 0 0), 1, 24) by kernel_rfl)
  have HCU := Lib.hid (vcut_any L w (by omega))
  have HNIL := Lib.hid (@stepD_nil d L)
  have HADD := Lib.hid (@stepD_add d L)
  obtain ⟨u, Hu⟩ : ∃ u, Hid (L.take (hashP L) = u) := ⟨_, rfl⟩
  have hu : u.length ≤ 65536 := by rw [← Hu.out, List.length_take]; omega
  rw [Hu.out] at HCU HNIL HADD
  have hsz : (bytesOf u).size = u.length := bytesOf_size u
  have HTU := Lib.hid (fun W => vtrim_any u W (by omega))
  have HO := Lib.hid ho
  clear ho
  by_cases hnil : trimL u = []
  · have HE := Lib.hid (HNIL.out hnil)
    have hem : (bytesOf (trimL u)).toList.isEmpty = true := by rw [ByteArray.toList_eq, bytesOf_list, hnil]; rfl
    clear hnil
    go_enter Tryz.func40, Tryz.ntmps40
    go_wp2_with fail
    refine HCU.out.mono ?_
    rintro e w2 ⟨rfl, hb2⟩
    go_wp2_with fail
    refine (HTU.out w2).mono ?_
    rintro e w3 ⟨rfl, rfl⟩
    go_wp2
    go_ret
    exact ⟨KX.below hb2 hB, LineEnd.fine HE.out (RfB.below ⟨_, _, _, _, _, _, _, hX⟩ hb2)⟩
  · have HST := Lib.hid (HADD.out hnil)
    have hem : (bytesOf (trimL u)).toList.isEmpty = false := by
      rw [ByteArray.toList_eq, bytesOf_list]
      cases hq : trimL u with
      | nil => exact absurd hq hnil
      | cons a b => rfl
    clear hnil HNIL HADD
    cases hq : findP 59 u with
    | none =>
      have HE := Lib.hid (HST.out.trans (addS_none (d := d) hq))
      rw [hq] at HCU
      clear hq
      go_enter Tryz.func40, Tryz.ntmps40
      go_wp2_with fail
      refine HCU.out.mono ?_
      rw [show fv none = -1 from rfl]
      rintro e w2 ⟨rfl, hb2⟩
      go_wp2_with fail
      refine (HTU.out w2).mono ?_
      rintro e w3 ⟨rfl, rfl⟩
      go_wp2
      go_ret
      exact ⟨KX.below hb2 hB, LineEnd.err HE.out⟩
    | some j =>
      rw [hq] at HCU
      have hj : j < u.length := (List.getElem?_eq_some_iff.1 (findP_lt (c := 59) _ u (Nat.le_refl _) j hq)).1
      obtain ⟨n, Hn⟩ : ∃ n, Hid (trimL (u.drop (j + 1)) = n) := ⟨_, rfl⟩
      have hnl : n.length ≤ 65536 := by have := Hn.out; have := trimL_len (u.drop (j + 1)); rw [List.length_drop] at this; rw [← Hn.out]; omega
      have HTR := Lib.hid (fun W => vtrim_any (u.drop (j + 1)) W (by rw [List.length_drop]; omega))
      have HX1 := Lib.hid (ext_bytes u (j + 1))
      rw [hsz] at HX1
      rw [← HX1.out, Hn.out] at HTR
      have HRP := Lib.hid (fun W => vspaced_any (u.take j) W (by rw [List.length_take]; omega))
      rw [← ext_bytes0] at HRP
      have HNM := Lib.hid (addS_name (d := d) hq)
      have HPA := Lib.hid (fun hn e => addS_parse (d := d) hq hn (e := e))
      have HMA := Lib.hid (fun hn l hp e => addS_many (d := d) hq hn (l := l) hp (e := e))
      have HCL := Lib.hid (fun hn l hp c hm => addS_clash (d := d) hq hn (l := l) hp (c := c) hm)
      have HOK := Lib.hid (fun hn l hp c hm => addS_ok (d := d) hq hn (l := l) hp (c := c) hm)
      rw [Hn.out] at HNM HPA HMA HCL HOK
      rw [← HST.out] at HNM HPA HMA HCL HOK
      clear hq HST
      go_enter Tryz.func40, Tryz.ntmps40
      go_wp2_with fail
      refine HCU.out.mono ?_
      rw [show fv (some j) = (j : Int) from rfl]
      rintro e w2 ⟨rfl, hb2⟩
      go_wp2_with fail
      refine (HTU.out w2).mono ?_
      rintro e w3 ⟨rfl, rfl⟩
      go_wp2_with fail
      refine (HTR.out w2).mono ?_
      rintro e w3 ⟨rfl, rfl⟩
      go_wp2_with fail
      refine (vName_any n w2 (by omega)).mono ?_
      rintro e w4 ⟨rfl, hb4⟩
      have hb := below_two hb2 hb4
      clear hb2 hb4
      have hX4 := hX.below hb
      cases hnm : nameL n with
      | false =>
        have HE := Lib.hid (HNM.out (.inl hnm))
        go_wp2
        go_ret
        exact ⟨KX.below hb hB, LineEnd.err HE.out⟩
      | true =>
        by_cases hot : n = otherL
        · have HE := Lib.hid (HNM.out (.inr hot))
          have heq : ((bytesOf n).toList == [79, 116, 104, 101, 114]) = true := by rw [ByteArray.toList_eq, bytesOf_list, hot]; rfl
          clear hot hnm HNM
          go_wp2
          go_ret
          exact ⟨KX.below hb hB, LineEnd.err HE.out⟩
        · have heq : ((bytesOf n).toList == [79, 116, 104, 101, 114]) = false := by rw [ByteArray.toList_eq, bytesOf_list]; exact beq_eq_false_iff_ne.2 hot
          have HNN : Hid (¬ (nameL n = false ∨ n = otherL)) := Lib.hid (fun h => by rcases h with h | h; rw [hnm] at h; cases h; exact hot h)
          clear hnm hot HNM
          go_wp2_with fail
          refine (HRP.out w4).mono ?_
          rintro e w5 ⟨rfl, hb5⟩
          go_wp2_with fail
          refine (sParse_any (bytesOf (spcL (u.take j))) w5 (by rw [bytesOf_size, spcL_len, List.length_take]; omega)).mono ?_
          rintro e w6 ⟨hb6, hpe⟩
          have hb6' := below_two (below_two hb hb5) hb6
          have hX6 := hX.below hb6'
          have hKX6 := KX.below (x := x) hb6' hB
          have hB6 : base ≤ w6.heap.size := Nat.le_trans hB hb6'.size
          have hx6 : x < w6.heap.size := Nat.lt_of_lt_of_le hx hb6'.size
          clear hX hX4 HTR HRP HCU HTU HX1
          cases hps : parseP (bytesOf (spcL (u.take j))) with
          | error y =>
            rw [hps] at hpe
            have hpe' : e = .returned (.tuple #[.slice none 0 0, .int .i64 y.1, .int .i64 y.2]) := hpe
            subst hpe'
            have hcode := parse_code hps
            have hne : ((y.1 : Int) != 0) = true := by rw [bne_iff_ne]; omega
            have HE := Lib.hid (HPA.out HNN.out y.1 (parseE_err hps))
            clear hps hpe
            go_wp2
            go_ret
            exact ⟨hKX6, LineEnd.err HE.out⟩
          | ok l0 =>
            rw [hps] at hpe
            obtain ⟨A1, n1, c1, rfl, ho1⟩ := hpe
            have HPE := Lib.hid (parseE_ok hps)
            obtain ⟨q, Hq⟩ : ∃ q, Hid (normR l0 = q) := ⟨_, rfl⟩
            have HNFq : Hid (NF q) := Lib.hid (by rw [← Hq.out]; exact normR_NF l0)
            rw [Hq.out] at ho1
            have ho1 := ho1.more (b' := base) (by have := hb5.size; have := hb.size; omega)
            have hn1 := own_nf_len ho1 HNFq.out
            have hnn : nn ≤ 64 := by have := HO.out.few; have := hX6.lenN; omega
            have HNB : Hid (nbrP d n = match d.names.idxOf? n with | some c => .ok c | none => if 64 ≤ d.names.length then .error 6 else .ok d.names.length) := rfl
            clear hps
            go_wp2_with fail
            refine (vClass_any base p x d.names d.sets n w6 ⟨_, _, _, _, _, _, _, hX6⟩ (by have := hX6.lenN; omega)).mono ?_
            rintro e w7 ⟨rfl, rfl⟩
            have hlS := hX6.lenS
            have hlN := hX6.lenN
            have hn0 : 0 < nn := by
              have h1 := HO.out.head
              cases hd : d.names with
              | nil => rw [hd] at h1; cases h1
              | cons a b => rw [hd] at hlN; simp at hlN; omega
            have c0 := hX6.blk.cell 0
            have c1' := hX6.blk.cell 1
            simp only [List.getElem?_toArray, List.getElem?_cons_zero, List.getElem?_cons_succ] at c0 c1'
            obtain ⟨g, HAs, _, _⟩ := hX6.hs.form hn0
            cases hix : d.names.idxOf? n with
            | some c =>
              rw [hix] at HNB
              have HCL' := Lib.hid (fun h => HCL.out HNN.out l0 HPE.out c HNB.out (by rw [Hq.out]; exact h))
              have HOK' := Lib.hid (fun h => HOK.out HNN.out l0 HPE.out c HNB.out (by rw [Hq.out]; exact h))
              rw [Hq.out] at HOK'
              have hclt : c < nn := by have := (List.getElem?_eq_some_iff.1 (idxOf?_some hix)).1; omega
              rw [show ((some c).getD 0 : Nat) = c from rfl, show (some c).isSome = true from rfl]
              clear hix
              go_wp2_with fail
              go_loopw [12] (fun v wr => ∃ (k m : Nat), v = .int .i64 k ∧ k ≤ nn ∧ Hid (ClashAt d c q k) ∧ wr = w6.drewN m) (fun v _ => nn - (intOf v).toNat)
              case atStart => exact ⟨1, 0, rfl, by omega, clash_one HO.out, rfl⟩
              case round =>
                obtain ⟨k, m, rfl, hk, HC, rfl⟩ := hrel
                by_cases hlt : k < nn
                · obtain ⟨s, Hs⟩ : ∃ s, Hid (d.sets[k]? = some s) := ⟨_, Lib.hid (List.getElem?_eq_getElem (show k < d.sets.length by omega))⟩
                  obtain ⟨y, Hy⟩ : ∃ y, Hid (xs[k]? = some y) := ⟨_, Lib.hid (List.getElem?_eq_getElem (show k < xs.length by omega))⟩
                  have hoy := hX6.hx.own k y s Hy.out Hs.out
                  have HNFs : Hid (NF s) := Lib.hid (HO.out.nf s (List.mem_of_getElem? Hs.out))
                  have hny := own_nf_len hoy HNFs.out
                  have hly : s.length = y.2.1 := by simpa using hoy.len
                  have hcell := hX6.hs.cell' HAs (k := k) (y := y) Hy.out
                  subst HAs
                  by_cases hkc : k = c
                  · have hbb : ((k : Int) != (c : Int)) = false := by rw [hkc]; simp
                    have HC' := Lib.hid (clashAt_next HC.out Hs.out (.inl hkc))
                    clear hkc
                    go_wp2
                    go_roundw
                    case rel => exact ⟨k + 1, m, by go_num, by omega, HC', rfl⟩
                    case measure => simp [intOf]; omega
                  · have hbb : ((k : Int) != (c : Int)) = true := by rw [bne_iff_ne]; omega
                    cases hmt : meetB s q with
                    | true =>
                      have HE := Lib.hid (HCL'.out (clash_here Hs.out hkc hmt))
                      clear hkc
                      go_wp2_with (go_at_call 81; refine (vmeet_any y.1 A1 y.2.1 y.2.2 n1 c1 s q (w6.drewN m) ((hoy.rd (by omega)).drewN m) ((ho1.rd (by omega)).drewN m) hly (by simpa using ho1.len) (by omega) (by omega)).mono ?_; rw [hmt]; rintro e w8 ⟨rfl, m2, rfl⟩)
                      go_ret
                      exact ⟨hKX6.trans (KX.below (by first | exact below_refl_drewN _ _ | exact below_drewN (below_refl_drewN _ _) _) hB6), LineEnd.err HE.out⟩
                    | false =>
                      have HC' := Lib.hid (clashAt_next HC.out Hs.out (.inr hmt))
                      clear hkc
                      go_wp2_with (go_at_call 81; refine (vmeet_any y.1 A1 y.2.1 y.2.2 n1 c1 s q (w6.drewN m) ((hoy.rd (by omega)).drewN m) ((ho1.rd (by omega)).drewN m) hly (by simpa using ho1.len) (by omega) (by omega)).mono ?_; rw [hmt]; rintro e w8 ⟨rfl, m2, rfl⟩)
                      go_roundw
                      case rel => exact ⟨k + 1, _, by go_num, by omega, HC', by first | rfl | exact World.drewN_drewN _ _ _⟩
                      case measure => simp [intOf]; omega
                · have HC2 := Lib.hid (HOK'.out (clashAt_end HC.out (show ¬ k < d.sets.length by omega)))
                  have hbm : Below w6.heap.size w6 (w6.drewN m) := below_refl_drewN _ _
                  have hXm := hX6.below hbm
                  have hom := ho1.below hbm
                  have hKt := hKX6.trans (KX.below hbm hB6)
                  have hBt : base ≤ (w6.drewN m).heap.size := hB6
                  generalize w6.drewN m = wm at hXm hom hKt hBt ⊢
                  have hXmN := hXm.lenN
                  have HP' : Hid (putP d n c q = ⟨d.names, d.sets.set c (orR (d.sets.getD c []) q)⟩) := Lib.hid (putP_old (by omega))
                  obtain ⟨l1, Hl1⟩ : ∃ l1, Hid (d.sets[c]? = some l1) := ⟨_, Lib.hid (List.getElem?_eq_getElem (show c < d.sets.length by omega))⟩
                  have HP2 : Hid (stepL d L = .ok ⟨d.names, d.sets.set c (orR l1 q)⟩) := Lib.hid (by rw [HC2.out, HP'.out, List.getD_eq_getElem?_getD, Hl1.out]; rfl)
                  obtain ⟨y, Hxc⟩ : ∃ y, Hid (xs[c]? = some y) := ⟨_, Lib.hid (List.getElem?_eq_getElem (show c < xs.length by omega))⟩
                  have hoy := hXm.hx.own c y l1 Hxc.out Hl1.out
                  have hny := own_nf_len hoy (HO.out.nf l1 (List.mem_of_getElem? Hl1.out))
                  have hrd0 := hoy.rd (by omega)
                  have hrd1 := hom.rd (by omega)
                  have hlen0 : l1.length = y.2.1 := by simpa using hoy.len
                  have hlen1 : q.length = n1 := by simpa using hom.len
                  have k0 := hXm.blk.cell 0
                  simp at k0
                  clear hX6 ho1 HC HCL' HOK' c0 c1' hKX6 hB6 hx6 hbm HAs hXmN hlN
                  go_wp2_with fail
                  obtain ⟨g, HAs, _, _⟩ := hXm.hs.form (show 0 < nn by omega)
                  have hcell := hXm.hs.cell' HAs (k := c) (y := y) Hxc.out
                  subst HAs
                  have k1 := hXm.blk.cell 1
                  simp at k1
                  have hXd := hXm.below (w' := wm.drew) ((Below.refl _ _).drew)
                  have HOR := Lib.hid (sOr_any y.1 A1 y.2.1 y.2.2 n1 c1 l1 q wm.drew hrd0.drew hrd1.drew hlen0 hlen1 (by omega))
                  refine wp_region_noPanic ?_
                  go_region_law (go_simp; go_at_call 82; refine HOR.out.mono ?_; rintro e wz ⟨A', n', c', rfl, ho', hb'⟩; have kz1 := cell_keep (w := wm.drew) k1 hb'; have kzc := cell_keep (w := wm.drew) hcell hb'; have kzf := (hXd.hs.below hb').frozen c)
                  all_goals
                    refine NoPanic.normal ?_
                    have hDz := (hXd.below hb').storeSet (k := c) (y := (A', n', c')) (show c < nn by omega) ho' hBt
                    have hKz := (hKt.trans ((KX.below ((Below.refl _ _).drew) hBt).trans (KX.below hb' hBt))).trans hDz.2
                    go_wp2
                    go_ret
                    exact ⟨hKz, LineEnd.fine HP2.out ⟨_, _, _, _, _, _, _, hDz.1⟩⟩

            | none =>
              rw [hix] at HNB
              rw [show ((none : Option Nat).getD 0 : Nat) = 0 from rfl, show (none : Option Nat).isSome = false from rfl]
              clear hix
              by_cases h64 : 64 ≤ nn
              · have HE := Lib.hid (HMA.out HNN.out l0 HPE.out 6 (by rw [HNB.out]; exact if_pos (by omega)))
                have h64b : (64 : Int) ≤ nn := by omega
                clear hlN
                go_wp2
                go_ret
                exact ⟨hKX6, LineEnd.err HE.out⟩
              · have HNB2 : Hid (nbrP d n = .ok nn) := Lib.hid (by rw [HNB.out, ← hlN]; exact if_neg (by omega))
                obtain ⟨c, Hc⟩ : ∃ c, Hid (c = nn) := ⟨_, rfl⟩
                have HCL' := Lib.hid (fun h => HCL.out HNN.out l0 HPE.out nn HNB2.out (by rw [Hq.out]; exact h))
                have HOK' := Lib.hid (fun h => HOK.out HNN.out l0 HPE.out nn HNB2.out (by rw [Hq.out]; exact h))
                rw [Hq.out] at HOK'
                have h64b : ¬ (64 : Int) ≤ nn := by omega
                go_wp2_with fail
                go_loopw [12] (fun v wr => ∃ (k m : Nat), v = .int .i64 k ∧ k ≤ nn ∧ Hid (ClashAt d nn q k) ∧ wr = w6.drewN m) (fun v _ => nn - (intOf v).toNat)
                case atStart => exact ⟨1, 0, rfl, by omega, clash_one HO.out, rfl⟩
                case round =>
                  obtain ⟨k, m, rfl, hk, HC, rfl⟩ := hrel
                  by_cases hlt : k < nn
                  · obtain ⟨s, Hs⟩ : ∃ s, Hid (d.sets[k]? = some s) := ⟨_, Lib.hid (List.getElem?_eq_getElem (show k < d.sets.length by omega))⟩
                    obtain ⟨y, Hy⟩ : ∃ y, Hid (xs[k]? = some y) := ⟨_, Lib.hid (List.getElem?_eq_getElem (show k < xs.length by omega))⟩
                    have hoy := hX6.hx.own k y s Hy.out Hs.out
                    have HNFs : Hid (NF s) := Lib.hid (HO.out.nf s (List.mem_of_getElem? Hs.out))
                    have hny := own_nf_len hoy HNFs.out
                    have hly : s.length = y.2.1 := by simpa using hoy.len
                    have hcell := hX6.hs.cell' HAs (k := k) (y := y) Hy.out
                    subst HAs
                    by_cases hkc : k = nn
                    · have hbb : ((k : Int) != (nn : Int)) = false := by rw [hkc]; simp
                      have HC' := Lib.hid (clashAt_next HC.out Hs.out (.inl hkc))
                      clear hkc
                      go_wp2
                      go_roundw
                      case rel => exact ⟨k + 1, m, by go_num, by omega, HC', rfl⟩
                      case measure => simp [intOf]; omega
                    · have hbb : ((k : Int) != (nn : Int)) = true := by rw [bne_iff_ne]; omega
                      cases hmt : meetB s q with
                      | true =>
                        have HE := Lib.hid (HCL'.out (clash_here Hs.out hkc hmt))
                        clear hkc
                        go_wp2_with (go_at_call 81; refine (vmeet_any y.1 A1 y.2.1 y.2.2 n1 c1 s q (w6.drewN m) ((hoy.rd (by omega)).drewN m) ((ho1.rd (by omega)).drewN m) hly (by simpa using ho1.len) (by omega) (by omega)).mono ?_; rw [hmt]; rintro e w8 ⟨rfl, m2, rfl⟩)
                        go_ret
                        exact ⟨hKX6.trans (KX.below (by first | exact below_refl_drewN _ _ | exact below_drewN (below_refl_drewN _ _) _) hB6), LineEnd.err HE.out⟩
                      | false =>
                        have HC' := Lib.hid (clashAt_next HC.out Hs.out (.inr hmt))
                        clear hkc
                        go_wp2_with (go_at_call 81; refine (vmeet_any y.1 A1 y.2.1 y.2.2 n1 c1 s q (w6.drewN m) ((hoy.rd (by omega)).drewN m) ((ho1.rd (by omega)).drewN m) hly (by simpa using ho1.len) (by omega) (by omega)).mono ?_; rw [hmt]; rintro e w8 ⟨rfl, m2, rfl⟩)
                        go_roundw
                        case rel => exact ⟨k + 1, _, by go_num, by omega, HC', by first | rfl | exact World.drewN_drewN _ _ _⟩
                        case measure => simp [intOf]; omega
                  · have HC2 := Lib.hid (HOK'.out (clashAt_end HC.out (show ¬ k < d.sets.length by omega)))
                    have hbm : Below w6.heap.size w6 (w6.drewN m) := below_refl_drewN _ _
                    have hXm := hX6.below hbm
                    have hom := ho1.below hbm
                    have hKm := hKX6.trans (KX.below hbm hB6)
                    have hBm : base ≤ (w6.drewN m).heap.size := hB6
                    have hxm : x < (w6.drewN m).heap.size := hx6
                    generalize w6.drewN m = wm at hXm hom hKm hBm hxm ⊢
                    have HP2 : Hid (stepL d L = .ok ⟨d.names ++ [n], (d.sets ++ [[]]).set nn (orR [] q)⟩) := Lib.hid (by
                      have e : (d.sets ++ [[]]).set nn (orR [] q) = d.sets ++ [orR [] q] := by
                        have := set_mid d.sets [] (orR [] q) []
                        rw [show nn = d.sets.length by omega]; exact this
                      rw [HC2.out, e, ← hXm.lenN]; exact congrArg Except.ok putP_new)
                    have Hxc : Hid ((xs ++ [((none : Option Addr), 0, 0)])[nn]? = some (none, 0, 0)) := Lib.hid (by rw [show nn = xs.length by omega]; exact get_mid xs _ [])
                    have hclt : nn < nn + 1 := by omega
                    have k0 := hXm.blk.cell 0
                    simp at k0
                    have on8 := hXm.hn
                    clear hX6 ho1 HC HCL' HOK' c0 c1' hKX6 hB6 hx6 hbm HAs hlN
                    go_wp2_with (first
                      | (at_builtin; refine wpList_app rfl (.tmp 95) (.tmp 97) _ rfl base 9 is1 _ 1 16 Tryz.underlying35 his1 hzs1 hzs2 hzs3 rfl (by omega) An nn cn (d.names.map encNm) rfl (on8.alloc _) _ 1 1 [encNm n] rfl rfl (Rd.newAt (by simp) rfl) (encNm_ok [n]) (by unfold maxLen; omega) (by omega) (by simp; omega) ?_; intro A3 c3 w9 ho9 hg9 hA9; have HN9 := hXm.named (by rw [List.map_append]; exact ho9) hg9 hA9 hxm hBm; have k90 := HN9.1.cell 0; have f90 := HN9.1.frozen 0; have k92 := HN9.2.1.blk.cell 1; simp only [List.getElem?_toArray, List.getElem?_cons_zero, List.getElem?_cons_succ] at k90 k92; have hz9 : wm.heap.size ≤ (w9.setCell ⟨p, 0, none⟩ (.slice A3 (nn + 1) c3)).heap.size := HN9.2.2.1.1.size)
                      | (at_builtin; refine wpList_app rfl (.tmp 105) (.tmp 106) _ rfl base 37 iz1 _ 1 24 Tryz.underlying68 hiz1 hzz1 hzz2 hzz3 rfl (by omega) As nn cs (xs.map encSl) rfl (HN9.2.1.hs.alloc _) _ 1 1 [encSl (none, 0, 0)] rfl rfl (Rd.newAt (by simp [World.setCell]) rfl) (encSl_ok [(none, 0, 0)]) (by unfold maxLen; omega) (by omega) (by simp [World.setCell] at hz9 ⊢; omega) ?_; intro A6 c6 w11 ho11 hg11 hA11; have HM := HN9.2.1.moreSet (by rw [List.map_append]; exact ho11) hg11 hA11 (by omega) (by omega); have k110 := HM.1.cell 1; have f110 := HM.1.frozen 1; have k112 := HM.2.1.blk.cell 1; simp only [List.getElem?_toArray, List.getElem?_cons_zero, List.getElem?_cons_succ] at k110 k112)
                      | fail)
                    have hXt := HM.2.1
                    have hKt := (hKm.trans HN9.2.2.1).trans HM.2.2.1
                    have hot := (hom.keepR HN9.2.2.2 (Nat.le_refl _)).keepR HM.2.2.2 (Nat.le_refl _)
                    have hBt : base ≤ (w11.setCell ⟨p, 1, none⟩ (.slice A6 (nn + 1) c6)).heap.size := Nat.le_trans hBm (Nat.le_trans hz9 HM.2.2.1.1.size)
                    clear HM HN9 hg9 hA9 ho9 k90 f90 k92 hz9 hg11 hA11 ho11 k110 f110 k112 hXm hom hKm hBm hxm k0 on8
                    generalize w11.setCell ⟨p, 1, none⟩ (.slice A6 (nn + 1) c6) = wt at hXt hKt hot hBt ⊢
                    have hrd0 : Rd wt 2 none (([] : List (Int × Int)).map encR) := Rd.nil_ _ _ _
                    have hrd1 := hot.rd (by omega)
                    have hlen0 : ([] : List (Int × Int)).length = 0 := rfl
                    have hlen1 : q.length = n1 := by simpa using hot.len
                    have hcI : (nn : Int) < (nn : Int) + 1 := by omega
                    obtain ⟨g, HAs, _, _⟩ := hXt.hs.form (show 0 < nn + 1 by omega)
                    have hcell := hXt.hs.cell' HAs (k := nn) (y := ((none : Option Addr), 0, 0)) Hxc.out
                    subst HAs
                    have k1 := hXt.blk.cell 1
                    simp at k1
                    have hXd := hXt.below (w' := wt.drew) ((Below.refl _ _).drew)
                    have HOR := Lib.hid (sOr_any none A1 0 0 n1 c1 [] q wt.drew hrd0.drew hrd1.drew hlen0 hlen1 (by omega))
                    refine wp_region_noPanic ?_
                    go_region_law (go_simp; go_at_call 82; refine HOR.out.mono ?_; rintro e wz ⟨A', n', c', rfl, ho', hb'⟩; have kz1 := cell_keep (w := wt.drew) k1 hb'; have kzc := cell_keep (w := wt.drew) hcell hb'; have kzf := (hXd.hs.below hb').frozen nn)
                    all_goals
                      refine NoPanic.normal ?_
                      have hDz := (hXd.below hb').storeSet (k := nn) (y := (A', n', c')) (show nn < nn + 1 by omega) ho' hBt
                      have hKz := (hKt.trans ((KX.below ((Below.refl _ _).drew) hBt).trans (KX.below hb' hBt))).trans hDz.2
                      go_wp2
                      go_ret
                      exact ⟨hKz, LineEnd.fine HP2.out ⟨_, _, _, _, _, _, _, hDz.1⟩⟩
end Go.Proofs.YtejccafolfeabaaGreatDoor

/-
  kerfref04: rest, New, walked.
-/
namespace Go.Proofs.YtejccafolfeabaaGreatDoor
open Go.RowKit Go.Maps

set_option maxRecDepth 100000 in
set_option maxHeartbeats 8000000 in
theorem vrest_any (p base x : Nat) (d : DbP) (w : World) (hd : RfB w base p x d.names d.sets) (ho : d.Ok) (ha : Apart d.sets) (hB : base ≤ w.heap.size) :
    Calls Tryz.prog 41 #[.pointer (some ⟨p, 0, none⟩)] w fun e w' => e = .returned (.tuple #[]) ∧ RfB w' base p x d.names d.full ∧ Below base w w' := by
  obtain ⟨An, nn, cn, As, ns, cs, xs, hX⟩ := hd.ex
  obtain ⟨j0, hj0, hy0, hy1, hy2⟩ := info_parts infoR
  have hns1 : 0 < ns := by
    have h1 := hX.lenS.2; have h2 := ho.len; have h3 := ho.head
    cases hd : d.names with
    | nil => rw [hd] at h3; cases h3
    | cons a b => rw [hd] at h2; simp at h2; omega
  obtain ⟨g, HAs, hgB, hgw⟩ := hX.hs.form hns1
  subst HAs
  have hns64 : ns ≤ 64 := by have h1 := hX.lenS.2; have h2 := ho.len; have h3 := ho.few; omega
  obtain ⟨T, HT⟩ : ∃ T, Hid (d.sets.tail = T) := ⟨_, rfl⟩
  have hTl : T.length + 1 = ns := by have h1 := hX.lenS.2; have := HT.out; rw [← this, List.length_tail]; omega
  have HTl := Lib.hid hTl
  have HTS : Hid (lenS T ≤ 1114112) := Lib.hid (by have := rng_len ho ha; rw [← HT.out]; omega)
  have HTN : Hid (∀ (k : Nat) (s : List (Int × Int)), T[k]? = some s → NF s ∧ d.sets[k + 1]? = some s) := Lib.hid (fun k s hk => by
    have : d.sets[k + 1]? = some s := by rw [← HT.out] at hk; rw [List.getElem?_tail] at hk; exact hk
    exact ⟨ho.nf s (List.mem_of_getElem? this), this⟩)
  have HFS := Lib.hid (full_set ho)
  have HRest : Hid (d.rest = notR (T.flatten)) := Lib.hid (by unfold DbP.rest; rw [HT.out])
  have c1 := hX.blk.cell 1
  simp at c1
  clear ho ha hTl hd
  go_enter Tryz.func41, Tryz.ntmps41
  go_wp2_with fail
  go_loopw [2, 3] (fun a v wr => ∃ (c : Nat) (Aa : Option Addr) (na ca : Nat), a = .slice Aa na ca ∧ v = .int .i64 (c + 1 : Nat) ∧ c + 1 ≤ ns ∧ Own wr w.heap.size 80 2 Aa na ca (((T.take c).flatten).map encR) ∧ Below w.heap.size w wr) (fun _ v _ => ns - (intOf v).toNat)
  case atStart => exact ⟨0, none, 0, 0, rfl, rfl, by omega, by simp; exact Own.nil_ _ _ _ _, Below.refl _ _⟩
  case round =>
    obtain ⟨c, Aa, na, ca, rfl, rfl, hc, hal, hb⟩ := hrel
    have hszr := hb.size
    have e1 := cell_keep c1 hb
    have hfl := Lib.hid (flat_le T c)
    have hnal : na ≤ 1114112 := by have h1 := hal.len; rw [List.length_map] at h1; have := hfl.out; have := HTS.out; omega
    by_cases hlt : c + 1 < ns
    · obtain ⟨s, Hs⟩ : ∃ s, Hid (T[c]? = some s) := ⟨_, Lib.hid (List.getElem?_eq_getElem (show c < T.length by have := HTl.out; omega))⟩
      obtain ⟨HNF, Hd⟩ := HTN.out c s Hs.out
      obtain ⟨⟨yA, yn, yc⟩, Hy⟩ : ∃ y, Hid (xs[c + 1]? = some y) := ⟨_, Lib.hid (List.getElem?_eq_getElem (show c + 1 < xs.length by have := hX.lenS.1; omega))⟩
      have hoy : Own w base 80 2 yA yn yc (s.map encR) := hX.hx.own (c + 1) (yA, yn, yc) s Hy.out Hd
      have hly : s.length = yn := by simpa using hoy.len
      have Hly := Lib.hid hly
      have hny := own_nf_len hoy HNF
      have hcell := cell_keep (hX.hs.cell' rfl Hy.out) hb
      have hoq := hoy.below hb
      have HFN := Lib.hid (flat_next Hs.out)
      have hfl2 := Lib.hid (flat_le T (c + 1))
      have hbound : na + yn ≤ 1114112 := by
        have h1 := hal.len; rw [List.length_map] at h1
        have h2 := hfl2.out; rw [HFN.out, List.length_append] at h2; have := HTS.out; omega
      have hI : (c : Int) + 1 < ns := by omega
      clear HNF Hd hly
      go_wp2_with (at_builtin; go_must (refine wpList_app rfl (.tmp 13) (.tmp 20) _ rfl w.heap.size 80 j0 _ 2 8 Tryz.underlying37 hj0 hy0 hy1 hy2 rfl (by omega) Aa na ca (((T.take c).flatten).map encR) rfl hal yA yn yc (s.map encR) rfl (by rw [List.length_map]; exact Hly.out) (hoq.rd (by omega)) (encR_ok s) (by unfold maxLen; omega) (by omega) (by omega) ?_); intro A3 c3 w3 ho3 hg3 hA3)
      have Ho3 : Own w3 w.heap.size 80 2 A3 (na + yn) c3 (((T.take (c + 1)).flatten).map encR) := by rw [HFN.out, List.map_append]; exact ho3
      have hb3 := below_app hb hg3 hszr (fun a ha => (hal.lt a ha).1)
      clear ho3 hg3
      go_roundw
      case rel => exact ⟨c + 1, A3, na + yn, c3, rfl, by go_num, by omega, Ho3, hb3⟩
      case measure => simp [intOf]; omega
    · obtain rfl : c + 1 = ns := by omega
      have HFe : Hid ((T.take c).flatten = T.flatten) := Lib.hid (by rw [List.take_of_length_le (by have := HTl.out; omega)])
      rw [HFe.out] at hal
      have hXr := hX.below hb
      have HNot := Lib.hid (sNot_any Aa na ca T.flatten wr.drew ((hal.rd (by omega)).drew) (by have h1 := hal.len; rw [List.length_map] at h1; exact h1) (by omega))
      obtain ⟨y0, hy0'⟩ : ∃ y, xs[0]? = some y := ⟨_, List.getElem?_eq_getElem (show 0 < xs.length by have := hX.lenS.1; omega)⟩
      have k0 := hXr.hs.cell' rfl hy0'
      have hXd := hXr.below (w' := wr.drew) ((Below.refl _ _).drew)
      have hBr : base ≤ wr.heap.size := by omega
      go_wp2_with fail
      refine wp_region_noPanic ?_
      go_region_law (go_simp; go_at_call 83; refine HNot.out.mono ?_; rintro e wz ⟨A', n', c', rfl, ho', hb'⟩; have kz0 := cell_keep (w := wr.drew) k0 hb'; have kz1 := cell_keep (w := wr.drew) e1 hb'; have kzf := (hXd.hs.below hb').frozen 0)
      all_goals
        refine NoPanic.normal ?_
        have hDz := (hXd.below hb').storeSet (k := 0) (y := (A', n', c')) (l := d.rest) (by omega) (by rw [HRest.out]; exact ho') hBr
        have hbz := (((hb.mono hB).trans ((Below.refl wr.heap.size wr).drew.mono hBr)).trans (hb'.mono hBr)).trans hDz.2.1
        rw [HFS.out] at hDz
        go_wp2
        first | exact ⟨_, results_none rfl _ _ _, rfl, ⟨_, _, _, _, _, _, _, hDz.1⟩, hbz⟩ | exact ⟨_, rfl, results_none rfl _ _ _, rfl, ⟨_, _, _, _, _, _, _, hDz.1⟩, hbz⟩ | exact ⟨rfl, _, results_none rfl _ _ _, rfl, ⟨_, _, _, _, _, _, _, hDz.1⟩, hbz⟩

/-- What the document's New leaves. -/
def RNewEnd (r : Except (Int × Nat) DbP) (e : Ending) (w' : World) (base : Nat) : Prop :=
  match r with
  | .error x => e = .returned (.tuple #[.pointer none, .int .i64 x.1, .int .i64 (x.2 : Int)])
  | .ok d => ∃ p x, e = .returned (.tuple #[.pointer (some ⟨p, 0, none⟩), .int .i64 0, .int .i64 0]) ∧ RfB w' base p x d.names d.full
theorem RNewEnd.err {r : Except (Int × Nat) DbP} {k : Int} {i : Nat} {w' : World} {base : Nat} (h : r = .error (k, i)) : RNewEnd r (.returned (.tuple #[.pointer none, .int .i64 k, .int .i64 (i : Int)])) w' base := by rw [h]; exact rfl
theorem RNewEnd.fine {r : Except (Int × Nat) DbP} {d : DbP} {p x : Nat} {w' : World} {base : Nat} (h : r = .ok d) (hd : RfB w' base p x d.names d.full) : RNewEnd r (.returned (.tuple #[.pointer (some ⟨p, 0, none⟩), .int .i64 0, .int .i64 0])) w' base := by rw [h]; exact ⟨p, x, rfl, hd⟩

theorem step_err {d : DbP} {L : List UInt8} {k : Int} (h : stepL d L = .error k) : 6 ≤ k := by
  unfold stepL at h
  split at h
  · cases h
  · injection h with h; omega
  · exact addL_err h
/-- The document's database at first. -/
theorem rfX_first (w : World) :
    RfX (((w.alloc (.cells #[.string (bytesOf otherL)] 9)).alloc (.cells #[.slice none 0 0] 37)).alloc (.cells #[.slice (some ⟨w.heap.size, 0, none⟩) 1 1, .slice (some ⟨w.heap.size + 1, 0, none⟩) 1 1] 75)) w.heap.size (w.heap.size + 2) (w.heap.size + 3)
      (some ⟨w.heap.size, 0, none⟩) 1 1 (some ⟨w.heap.size + 1, 0, none⟩) 1 1 [(none, 0, 0)] [otherL] [[]] ∧
    Below w.heap.size w (((w.alloc (.cells #[.string (bytesOf otherL)] 9)).alloc (.cells #[.slice none 0 0] 37)).alloc (.cells #[.slice (some ⟨w.heap.size, 0, none⟩) 1 1, .slice (some ⟨w.heap.size + 1, 0, none⟩) 1 1] 75)) := by
  have n1 : Own (w.alloc (.cells #[.string (bytesOf otherL)] 9)) w.heap.size 9 1 (some ⟨w.heap.size, 0, none⟩) 1 1 ([otherL].map encNm) := own_one (Nat.le_refl _)
  have s2 : Own ((w.alloc (.cells #[.string (bytesOf otherL)] 9)).alloc (.cells #[.slice none 0 0] 37)) w.heap.size 37 1 (some ⟨w.heap.size + 1, 0, none⟩) 1 1 ([((none : Option Addr), 0, 0)].map encSl) := by
    have := own_one (w := w.alloc (.cells #[.string (bytesOf otherL)] 9)) (t := 37) (u := .slice none 0 0) (base := w.heap.size) (by simp)
    rw [show (w.alloc (.cells #[.string (bytesOf otherL)] 9)).heap.size = w.heap.size + 1 by simp] at this
    exact this
  refine ⟨⟨?_, by omega, (n1.alloc _).alloc _, s2.alloc _, ⟨rfl, ?_⟩, by omega, fun a ha => by injection ha with ha; subst ha; show w.heap.size ≠ w.heap.size + 3; omega, fun a ha => by injection ha with ha; subst ha; show w.heap.size + 1 ≠ w.heap.size + 3; omega⟩, ?_⟩
  · have := Blk.new ((w.alloc (.cells #[.string (bytesOf otherL)] 9)).alloc (.cells #[.slice none 0 0] 37)) 75 #[.slice (some ⟨w.heap.size, 0, none⟩) 1 1, .slice (some ⟨w.heap.size + 1, 0, none⟩) 1 1]
    simpa using this
  · intro k x l hx hl
    match k, hx, hl with
    | 0, hx, hl => simp at hx hl; subst hx; subst hl; exact Own.nil_ _ _ _ _
    | k + 1, hx, hl => simp at hx
  · exact (((Below.refl _ _).alloc (Nat.le_refl _) _).alloc (by simp) _).alloc (by simp; omega) _

set_option maxRecDepth 100000 in
set_option maxHeartbeats 8000000 in
theorem vNew_any (t : List UInt8) (w : World) (ht : t.length ≤ maxLen) :
    Calls Tryz.prog 14 #[.string (bytesOf t)] w fun e w' => RNewEnd (newP t) e w' w.heap.size ∧ Below w.heap.size w w' := by
  have hsz : (bytesOf t).size = t.length := bytesOf_size t
  unfold maxLen at ht
  by_cases hl : 65536 < t.length
  · have HE := Lib.hid (newP_long hl)
    go_enter Tryz.func14, Tryz.ntmps14
    go_wp2
    go_ret3
    exact ⟨RNewEnd.err HE.out, Below.refl _ _⟩
  · have HG := Lib.hid (newP_go hl)
    obtain ⟨hX, hB0⟩ := rfX_first w
    have hw3 : w.heap.size + 3 = (((w.alloc (.cells #[.string (bytesOf otherL)] 9)).alloc (.cells #[.slice none 0 0] 37)).alloc (.cells #[.slice (some ⟨w.heap.size, 0, none⟩) 1 1, .slice (some ⟨w.heap.size + 1, 0, none⟩) 1 1] 75)).heap.size := by simp
    obtain ⟨L, HL⟩ : ∃ L, Hid (splitL t = L) := ⟨_, rfl⟩
    have HLl := Lib.hid (fun i l (h : L[i]? = some l) => line_len (t := t) (i := i) (l := l) (by rw [HL.out]; exact h))
    have HLn : Hid (L.length ≤ 65537) := Lib.hid (by rw [← HL.out, splitL_count]; have := List.count_le_length (a := (10 : UInt8)) (l := t); omega)
    have HNP : Hid (newP t = linesGo DbP.first L 0) := Lib.hid (by rw [HG.out, HL.out])
    have HV := Lib.hid (fun W => vLines_any t W (by omega))
    rw [HL.out] at HV
    go_enter Tryz.func14, Tryz.ntmps14
    go_wp2_with fail
    rw [show (⟨#[79, 116, 104, 101, 114]⟩ : ByteArray) = bytesOf otherL from rfl]
    generalize ((w.alloc (.cells #[.string (bytesOf otherL)] 9)).alloc (.cells #[.slice none 0 0] 37)).alloc (.cells #[.slice (some ⟨w.heap.size, 0, none⟩) 1 1, .slice (some ⟨w.heap.size + 1, 0, none⟩) 1 1] 75) = w3 at hX hB0 hw3 ⊢
    refine (HV.out w3).mono ?_
    rintro e w4 ⟨AL, nL, cL, rfl, hoL, hb4⟩
    have hnL : L.length = nL := by simpa using hoL.len
    have hX4 := hX.below hb4
    have hB4 := below_step hB0 hb4 (by have := hB0.size; omega)
    have HnL := Lib.hid hnL
    have HLne : Hid (L ≠ []) := Lib.hid (by rw [← HL.out]; exact splitL_ne t)
    clear hnL HG HL
    -- the block of the lines, or none
    obtain ⟨x, hxw, hXx, hcells⟩ : ∃ x, x < w4.heap.size ∧ RfX w4 w.heap.size (w.heap.size + 2) x (some ⟨w.heap.size, 0, none⟩) 1 1 (some ⟨w.heap.size + 1, 0, none⟩) 1 1 [(none, 0, 0)] [otherL] [[]] ∧
        (∀ W : World, W.heap[x]? = w4.heap[x]? → ∀ i l, L[i]? = some l → ∃ off, AL = some ⟨x, off, none⟩ ∧ W.cell? ⟨x, off + i, none⟩ = some (.string (bytesOf l))) := by
      have h0 : 0 < nL := by
        cases hq : L with
        | nil => exact absurd hq HLne.out
        | cons a b => rw [← HnL.out, hq]; simp
      obtain ⟨gx, hgx, hg1, hg2⟩ := hoL.form h0
      subst hgx
      refine ⟨gx, hg2, { hX4 with xp := by omega, xn := fun a ha => by injection ha with ha; subst ha; show w.heap.size ≠ gx; omega, xs_ := fun a ha => by injection ha with ha; subst ha; show w.heap.size + 1 ≠ gx; omega }, fun W hW i l hl => ?_⟩
      have h1 := hoL.cell (k := i) (j := 0) (x := encNm l) (u := .string (bytesOf l)) (by rw [List.getElem?_map, hl]; rfl) rfl
      simp only [Nat.mul_one, Nat.add_zero] at h1
      exact ⟨0, rfl, by rw [Nat.zero_add]; exact (World.cell?_of_block hW).trans h1⟩
    have HCells := Lib.hid hcells
    have hsw := hB4.size
    clear hcells hX hX4 hB0 hw3 hb4 hoL
    generalize w.heap.size + 2 = p at hXx ⊢
    go_wp2_with fail
    go_loopw [7] (fun v wr => ∃ (i : Nat) (d : DbP), v = .int .i64 i ∧ i ≤ L.length ∧ RfB wr w.heap.size p x d.names d.sets ∧ wr.heap[x]? = w4.heap[x]? ∧ Hid (NewAt L i d) ∧ Below w.heap.size w wr ∧ x < wr.heap.size) (fun v _ => L.length - (intOf v).toNat)
    case atStart => exact ⟨0, DbP.first, rfl, by omega, ⟨_, _, _, _, _, _, _, hXx⟩, rfl, newAt_first L, hB4, hxw⟩
    case round =>
      clear hXx
      obtain ⟨i, d, rfl, hi, hd, hxr, HN, hb, hxl⟩ := hrel
      have hszr := hb.size
      have hnl := HnL.out
      by_cases hlt : i < L.length
      · obtain ⟨l, Hl⟩ : ∃ l, Hid (L[i]? = some l) := ⟨_, Lib.hid (List.getElem?_eq_getElem hlt)⟩
        obtain ⟨off, rfl, hcell⟩ := HCells.out wr hxr i l Hl.out
        have hll := HLl.out i l Hl.out
        have HN2 := HLn.out
        have HA := Lib.hid (vline_any p w.heap.size x d l wr hd HN.out.2.2.1 hxl hszr (by omega))
        have hltn : i < nL := by omega
        clear hnl
        cases hs : stepL d l with
        | error k =>
          rw [hs] at HA
          have hk0 : ((k : Int) != 0) = true := by rw [bne_iff_ne]; have := step_err hs; omega
          have HE := Lib.hid (HNP.out.trans (newAt_err HN.out Hl.out hs))
          clear hs
          go_wp2_with fail
          refine HA.out.mono ?_
          rintro e w6 ⟨hk, hae⟩
          have he : e = .returned (.int .i64 k) := hae
          subst he
          go_wp2
          go_ret3
          exact ⟨RNewEnd.err HE.out, hb.trans hk.1⟩
        | ok d' =>
          rw [hs] at HA
          have HN' := Lib.hid (newAt_next HN.out Hl.out hs)
          clear hs
          go_wp2_with fail
          refine HA.out.mono ?_
          rintro e w6 ⟨hk, rfl, hd'⟩
          go_wp2
          go_roundw
          case rel => exact ⟨i + 1, d', by go_num, by omega, hd', (hk.2 hxl).trans hxr, HN', hb.trans hk.1, Nat.lt_of_lt_of_le hxl hk.1.size⟩
          case measure => simp [intOf]; omega
      · have HE := Lib.hid (HNP.out.trans (newAt_end HN.out hlt))
        have HC := Lib.hid (vrest_any p w.heap.size x d wr hd HN.out.2.2.1 HN.out.2.2.2 hszr)
        go_wp2_with (go_at_call 41; refine HC.out.mono ?_; rintro e w5 ⟨rfl, hda, hb5⟩)
        go_ret3
        exact ⟨RNewEnd.fine HE.out hda, hb.trans hb5⟩
end Go.Proofs.YtejccafolfeabaaGreatDoor

/-
  kerflaw04.PropsReads, walked.
-/
namespace Go.Proofs.YtejccafolfeabaaGreatDoor
open Go.RowKit Go.Maps

set_option maxRecDepth 100000 in
set_option maxHeartbeats 4000000 in
theorem qPropsReads_any (s : ByteArray) (Aq : Option Addr) (nq cq : Nat) (q : List Int) (w : World) (hE : Env w) (hs : s.size ≤ maxLen) (hq : Rd w 1 Aq (q.map fun r => [.int .i32 r])) (hql : q.length = nq) (hqn : nq ≤ maxLen) :
    Calls Tryz.prog 4 #[.string s, .slice Aq nq cq] w fun e w' => e = .returned (.bool true) ∧ Below w.heap.size w w' := by
  obtain ⟨t, rfl⟩ : ∃ t, s = bytesOf t := ⟨_, (bytesOf_data s).symm⟩
  rw [bytesOf_size] at hs
  have hsz : (bytesOf t).size = t.length := bytesOf_size t
  have hs0 := hs
  unfold maxLen at hqn hs
  by_cases hbig : (12000 < t.length ∧ t.length ≤ 65536) ∨ (¬ (12000 < t.length ∧ t.length ≤ 65536) ∧ 300 < nq)
  · rcases hbig with ⟨h1, h2⟩ | ⟨h1, h2⟩
    · have d1 : decide (12000 < t.length) = true := decide_eq_true h1
      have d2 : decide (t.length ≤ 65536) = true := decide_eq_true h2
      go_enter Tryz.func4, Tryz.ntmps4
      go_wp2_with fail
      refine (qlive_any w hE).mono ?_
      rintro e w1 ⟨rfl, hb1⟩
      go_wp2
      go_ret
      exact ⟨rfl, hb1⟩
    · rcases (by omega : ¬ 12000 < t.length ∨ (12000 < t.length ∧ ¬ t.length ≤ 65536)) with h3 | ⟨h3, h4⟩
      · have d1 : decide (12000 < t.length) = false := decide_eq_false h3
        clear h1
        go_enter Tryz.func4, Tryz.ntmps4
        go_wp2_with fail
        refine (qlive_any w hE).mono ?_
        rintro e w1 ⟨rfl, hb1⟩
        go_wp2
        go_ret
        exact ⟨rfl, hb1⟩
      · have d1 : decide (12000 < t.length) = true := decide_eq_true h3
        have d2 : decide (t.length ≤ 65536) = false := decide_eq_false h4
        clear h1
        go_enter Tryz.func4, Tryz.ntmps4
        go_wp2_with fail
        refine (qlive_any w hE).mono ?_
        rintro e w1 ⟨rfl, hb1⟩
        go_wp2
        go_ret
        exact ⟨rfl, hb1⟩
  · have hb1' : ¬ (12000 < t.length ∧ t.length ≤ 65536) := fun h => hbig (.inl h)
    have hb2' : ¬ 300 < nq := fun h => hbig (.inr ⟨hb1', h⟩)
    have HN := Lib.hid (wNew_any t w hE hs0)
    have HV := Lib.hid (fun W => vNew_any t W hs0)
    clear hbig
    cases hr : newP t with
    | error x =>
      rw [hr] at HN HV
      have hx := newP_code hr
      obtain ⟨k, i⟩ := x
      have hkk : ((k : Int) != k) = false := by simp
      have hii : ((i : Int) != i) = false := by simp
      clear hr
      rcases (by omega : ¬ 12000 < t.length ∨ (12000 < t.length ∧ ¬ t.length ≤ 65536)) with h3 | ⟨h3, h4⟩
      · have d1 : decide (12000 < t.length) = false := decide_eq_false h3
        clear hb1'
        go_enter Tryz.func4, Tryz.ntmps4
        go_wp2_with fail
        refine HN.out.mono ?_
        rintro e w1 ⟨he, hb1⟩
        have he : e = .returned (.tuple #[.pointer none, .int .i64 k, .int .i64 (i : Int)]) := he
        subst he
        go_wp2_with fail
        refine (HV.out w1).mono ?_
        rintro e w2 ⟨he, hb2⟩
        have he : e = .returned (.tuple #[.pointer none, .int .i64 k, .int .i64 (i : Int)]) := he
        subst he
        go_wp2_with (go_at_call 15; refine (qnum_any _ _).mono ?_; rintro e w' ⟨rfl, rfl⟩)
        refine (qlive_any w2 (hE.below (below_two hb1 hb2))).mono ?_
        rintro e w3 ⟨rfl, hb3⟩
        go_wp2
        go_ret
        exact ⟨rfl, below_two (below_two hb1 hb2) hb3⟩
      · have d1 : decide (12000 < t.length) = true := decide_eq_true h3
        have d2 : decide (t.length ≤ 65536) = false := decide_eq_false h4
        clear hb1'
        go_enter Tryz.func4, Tryz.ntmps4
        go_wp2_with fail
        refine HN.out.mono ?_
        rintro e w1 ⟨he, hb1⟩
        have he : e = .returned (.tuple #[.pointer none, .int .i64 k, .int .i64 (i : Int)]) := he
        subst he
        go_wp2_with fail
        refine (HV.out w1).mono ?_
        rintro e w2 ⟨he, hb2⟩
        have he : e = .returned (.tuple #[.pointer none, .int .i64 k, .int .i64 (i : Int)]) := he
        subst he
        go_wp2_with (go_at_call 15; refine (qnum_any _ _).mono ?_; rintro e w' ⟨rfl, rfl⟩)
        refine (qlive_any w2 (hE.below (below_two hb1 hb2))).mono ?_
        rintro e w3 ⟨rfl, hb3⟩
        go_wp2
        go_ret
        exact ⟨rfl, below_two (below_two hb1 hb2) hb3⟩
    | ok d =>
      rw [hr] at HN HV
      obtain ⟨hok, hap⟩ := newP_ok hr
      have HO := Lib.hid (And.intro hok (And.intro hap (newP_named hr)))
      have h3 : ¬ 12000 < t.length := by
        intro h
        have h4 : 65536 < t.length := by omega
        rw [newP_long h4] at hr; cases hr
      have d1 : decide (12000 < t.length) = false := decide_eq_false h3
      have Hql := Lib.hid hql
      clear hr hok hap hb1' hql
      go_enter Tryz.func4, Tryz.ntmps4
      go_wp2_with fail
      refine HN.out.mono ?_
      rintro e w1 ⟨⟨p, rfl, hd⟩, hb1⟩
      go_wp2_with fail
      refine (HV.out w1).mono ?_
      rintro e w2 ⟨⟨pr, x, rfl, hv⟩, hb2⟩
      have hb := below_two hb1 hb2
      go_wp2_with (go_at_call 15; refine (qnum_any _ _).mono ?_; rintro e w' ⟨rfl, rfl⟩)
      refine (qlive_any w2 (hE.below hb)).mono ?_
      rintro e w3 ⟨rfl, hb3⟩
      have hb' := below_two hb hb3
      have HS := Lib.hid (qstands_any w1.heap.size p pr x d Aq nq cq q w3 ((hd.below hb2).below hb3) (hv.below hb3) HO.out.1 HO.out.2.1 HO.out.2.2 (hE.below hb').tabB (hq.below hb') Hql.out (by omega))
      go_wp2_with fail
      refine HS.out.mono ?_
      rintro e w4 ⟨rfl, hb4⟩
      go_wp2
      go_ret
      exact ⟨rfl, below_two hb' hb4⟩
end Go.Proofs.YtejccafolfeabaaGreatDoor

