/-
  Several texts in one, in their build order: WitP, Post, VP, Vb, Qt, Vd, PrintS, Qd, Vi, Vj, Vk, Vl, Qe, Wn, PropsZ, DbY, Wm, DbP, PropsJ, Wo, PropsK.
-/
import Derived.Test.YtejccafolfeabaaGreatDoorCards
import Derived.Test.YtejccafolfeabaaGreatDoorTie
import Derived.PinnedBridge
import Derived.Lib.LaidIn
import Derived.Lib.LaidU8
import Derived.Lib.LaidTab
import Derived.Lib.LaidCaseMet
import Derived.Shelf.Vars
import Derived.Deep.DeepHandedRow
import Derived.Deep.DeepWitnessRowRef
import Derived.ProofKit
import Derived.Carry
import Derived.ChangeSame
import Derived.OpenShut
import Derived.Deep.SlicePairs
import Derived.SizedLaws
import Derived.ChangeSlices
import Derived.Lib.AppendStr
import Derived.Lib.BufferRead
import Derived.Deep.RegionHeld3
import Derived.RegionTactic
import Derived.BigRegion
import Derived.Test.YtejccafolfeabaaGreatDoorZ1
import Derived.Test.YtejccafolfeabaaGreatDoorZ2
import Derived.Test.YtejccafolfeabaaGreatDoorZ3
import Derived.Test.YtejccafolfeabaaGreatDoorZ4
/-
  WHAT THE LISTED VARIABLES GIVE (the tables of utf8); a world that bears them all, for the witness.
-/
namespace Go.Proofs.YtejccafolfeabaaGreatDoor
open Go.ChangeShapes Go.WideShapes Go.ChangeAt Go.RowKit Go.Lib Go.Shelf

theorem ownK : ownKnob Tryz.prog.godebug = none := by kernel_rfl
set_option maxRecDepth 100000 in
theorem accept_eq : (Rows.laid_unicode_utf8_acceptRanges : DataW Unit) = acceptData := by kernel_rfl
theorem tabs_of_laid {W : World} (hL : laidMetH Tryz.prog Rows.propsNamesRow.laid W) : Tabs W := by
  have h1 := laidMet.reads hL (.tail _ (.tail _ (.tail _ (.tail _ (.tail _ (.tail _ (.tail _ (.head _))))))))
  have h2 := laidMet.reads hL (.tail _ (.tail _ (.tail _ (.head _))))
  rw [show (Rows.laid_unicode_utf8_first : DataW Unit) = firstData from Pinned.utf8First_eq] at h1
  rw [accept_eq] at h2
  exact utf8Tabs_of_reads (ρ := Tryz.lays260_ren) { Tryz.lays260 with } ⟨by kernel_rfl, by kernel_rfl, by kernel_rfl, by kernel_rfl, by kernel_rfl, by kernel_rfl, by kernel_rfl⟩ h1 h2

def deB64 : List Int := [0, 1, 56, 2, 57, 49, 28, 3, 61, 58, 42, 50, 38, 29, 17, 4, 62, 47, 59, 36, 45, 43, 51, 22, 53, 39, 33, 30, 24, 18, 12, 5, 63, 55, 48, 27, 60, 41, 37, 16, 46, 35, 44, 21, 52, 32, 23, 11, 54, 26, 40, 15, 34, 20, 31, 10, 25, 14, 19, 9, 13, 8, 7, 6]
theorem tabB_of_laid {W : World} (hL : laidMetH Tryz.prog Rows.propsNamesRow.laid W) : TabB W := by
  have h := laidMet.reads hL (.tail _ (.head _))
  rw [show (Rows.laid_math_bits_deBruijn64tab : DataW Unit) = tabData .u8 deB64 by kernel_rfl] at h
  obtain ⟨g, t, cs, fuel, p, hg, hty, hvar, hd⟩ := h
  obtain rfl := Option.some.inj ((show Tryz.prog.globalNamed "math/bits.deBruijn64tab" = some 6 by kernel_rfl).symm.trans hg)
  obtain rfl := Option.some.inj ((show (Tryz.prog.globals[(6 : Nat)]?).map (·.type) = some 252 by kernel_rfl).symm.trans hty)
  have hcs := cells_of_tab Tryz.underlying252 Tryz.underlying5 (by kernel_rfl) (by kernel_rfl) hd
  have := World.var?_cell hg hvar 15
  unfold TabB
  rw [this, ← Array.getElem?_toList, hcs]; rfl

theorem env_of_laid {W : World} (hL : laidMetH Tryz.prog Rows.propsNamesRow.laid W) (hS : W.ShapedOpen Tryz.prog) : Env W :=
  ⟨tabs_of_laid hL, cell_of_shapedOpen_int hS (g := 0) (t := 3) (zero := #[.int .i64 0]) (of_decide_eq_true (by kernel_rfl)) (by kernel_rfl) rfl (by kernel_rfl) (by kernel_rfl) Tryz.underlying3, tabB_of_laid hL⟩

/-- THE WITNESS's WORLD: the settled one with three blocks more (the two errors' structs; the rows of the table of cases); the variables hold what their initialisers lay. -/
noncomputable def laidWorld (os : Os) : World :=
  let N := (World.settled Tryz.prog os).heap.size
  let w0 := World.holding Tryz.prog os ⟨#[.cells #[.string ⟨#[118, 97, 108, 117, 101, 32, 111, 117, 116, 32, 111, 102, 32, 114, 97, 110, 103, 101]⟩] 259, .cells #[.string ⟨#[105, 110, 118, 97, 108, 105, 100, 32, 115, 121, 110, 116, 97, 120]⟩] 259, .cells Lib.caseCells5 250], #[], []⟩
  let put (h : Array Obj) (g : Nat) (cs : Array Value) : Array Obj := h.modify g fun
    | .cells _ t frozen => .cells cs t frozen
    | o => o
  let h1 := put w0.heap 1 (firstTab.map fun z => Value.int .u8 z).toArray
  let h2 := put h1 2 ((List.range 16).flatMap fun i => [Value.int .u8 (accLo i), Value.int .u8 (accHi i)]).toArray
  let h3 := put h2 7 #[.iface 257 (.pointer (some ⟨N + 1, 0, none⟩))]
  let h4 := put h3 8 #[.iface 257 (.pointer (some ⟨N, 0, none⟩))]
  let h5 := put h4 4 ((List.range 20).map fun i => Value.int .u64 (10 ^ i : Nat)).toArray
  let h6 := put h5 5 ([0, 1, 28, 2, 29, 14, 24, 3, 30, 22, 20, 15, 25, 17, 4, 8, 31, 27, 13, 23, 21, 19, 16, 7, 26, 12, 18, 6, 11, 5, 10, 9].map fun (z : Int) => Value.int .u8 z).toArray
  let h7 := put h6 6 ([0, 1, 56, 2, 57, 49, 28, 3, 61, 58, 42, 50, 38, 29, 17, 4, 62, 47, 59, 36, 45, 43, 51, 22, 53, 39, 33, 30, 24, 18, 12, 5, 63, 55, 48, 27, 60, 41, 37, 16, 46, 35, 44, 21, 52, 32, 23, 11, 54, 26, 40, 15, 34, 20, 31, 10, 25, 14, 19, 9, 13, 8, 7, 6].map fun (z : Int) => Value.int .u8 z).toArray
  let h8 := put h7 3 #[.slice (some ⟨N + 2, 0, none⟩) Lib.caseA.size Lib.caseA.size]
  { w0 with heap := h8 }
/-- A world in which the variable holds a slice of the table's cells reads as the table: the table's own row of 'laid'. -/
theorem caseIn {P : Program} {ρ : Go.Shelf.Ren} (L : Go.Proofs.Lays.n274 P ρ) (t206 : P.underlying (ρ.t 206) = some (.array 3 (ρ.t 21))) (X : CaseExtra P ρ) {w : World} (R : Nat) (t : TypeId) (hgR : ρ.g 13 ≠ R)
    (hvar : w.heap[ρ.g 13]? = some (.cells #[.slice (some ⟨R, 0, none⟩) caseA.size caseA.size] (ρ.t 162) (0, 0)))
    (hblk : w.heap[R]? = some (.cells caseCells5 t (0, 0))) : LaidIn P w [("unicode.CaseRanges", caseData)] [ρ.g 13, R] := by
  have hT := caseTab_of_block hblk
  have hread := case_slice_reads L t206 X hT caseA_wf (by rw [caseA_size]; unfold maxLen; omega) 0
  rw [case_rows_data] at hread
  have hv : w.var? P "unicode.CaseRanges" = some #[.slice (some ⟨R, 0, none⟩) caseA.size caseA.size] := by simp [World.var?, X.n13, hvar]
  refine LaidIn.one _ X.n13 X.y13 hv hread ?_ (fun b off hp => ?_) (fun x hx => ?_)
  · refine List.nodup_append.2 ⟨row_nodup _ _, row_nodup _ _, ?_⟩
    intro a ha b hb e
    obtain ⟨i, _, rfl⟩ := MemPlace.mem_row.1 ha
    obtain ⟨j, _, rfl⟩ := MemPlace.mem_row.1 hb
    simp at e
    exact hgR e.1
  · rcases List.mem_append.1 hp with hp | hp
    · obtain ⟨i, hi, e⟩ := MemPlace.mem_row.1 hp
      cases e
      refine ⟨⟨_, _, hvar⟩, fun u v hc => ?_⟩
      obtain rfl : i = 0 := by simp at hi; omega
      rw [Lib.cell_of_heap hvar] at hc
      simp at hc
    · obtain ⟨i, hi, e⟩ := MemPlace.mem_row.1 hp
      cases e
      refine ⟨⟨_, _, hblk⟩, fun u v hc => ?_⟩
      obtain ⟨c0, c1, c2, c3, c4⟩ := hT (i / 5) (by omega)
      have hi5 : 0 + i = 0 + i / 5 * 5 + i % 5 := by omega
      simp only at hc
      rw [hi5] at hc
      have hm : i % 5 < 5 := Nat.mod_lt _ (by omega)
      match hk : i % 5, hm with
      | 0, _ => rw [hk, Nat.add_zero, c0] at hc; cases hc
      | 1, _ => rw [hk, c1] at hc; cases hc
      | 2, _ => rw [hk, c2] at hc; cases hc
      | 3, _ => rw [hk, c3] at hc; cases hc
      | 4, _ => rw [hk, c4] at hc; cases hc
  · rcases List.mem_append.1 hx with hx | hx
    · obtain ⟨i, _, rfl⟩ := MemPlace.mem_row.1 hx; simp [MemPlace.block]
    · obtain ⟨i, _, rfl⟩ := MemPlace.mem_row.1 hx; simp [MemPlace.block]
/-- The numbers of the table's types here, and its variable's. -/
def renC : Go.Shelf.Ren := ⟨Tryz.lays274_ren.f, Tryz.lays274_ren.t, fun _ => 3⟩
set_option maxRecDepth 1000000 in
theorem laid_in (os : Os) (args : Array Value) : LaidIn Tryz.prog ((laidWorld os).forCall (fun _ _ => 0) ⟨#[], args, []⟩).memory Rows.propsNamesRow.laid ([2, 7, 8, 4, 5, 6, (World.settled Tryz.prog default).heap.size, (World.settled Tryz.prog default).heap.size + 1] ++ ([3, (World.settled Tryz.prog default).heap.size + 2] ++ [1])) := by
  have h1 : LaidIn Tryz.prog ((laidWorld os).forCall (fun _ _ => 0) ⟨#[], args, []⟩).memory (Rows.propsNamesRow.laid.take 6) [2, 7, 8, 4, 5, 6, (World.settled Tryz.prog default).heap.size, (World.settled Tryz.prog default).heap.size + 1] :=
    LaidIn.of_run _ 8 (by kernel_rfl) (by kernel_rfl) (by kernel_rfl) (by kernel_rfl)
  have h2 : LaidIn Tryz.prog ((laidWorld os).forCall (fun _ _ => 0) ⟨#[], args, []⟩).memory [("unicode.CaseRanges", Rows.laid_unicode_CaseRanges)] [3, (World.settled Tryz.prog default).heap.size + 2] := by
    rw [show (Rows.laid_unicode_CaseRanges : DataW Unit) = caseData from Pinned.caseRanges_eq]
    exact caseIn (ρ := renC) { Tryz.lays274 with } (by kernel_rfl) ⟨by kernel_rfl, by kernel_rfl, by kernel_rfl, by kernel_rfl, by kernel_rfl, by kernel_rfl⟩ ((World.settled Tryz.prog default).heap.size + 2) 250 (of_decide_eq_true (by kernel_rfl)) (by kernel_rfl) (by kernel_rfl)
  have h3 : LaidIn Tryz.prog ((laidWorld os).forCall (fun _ _ => 0) ⟨#[], args, []⟩).memory [("unicode/utf8.first", Rows.laid_unicode_utf8_first)] [1] :=
    LaidIn.of_run _ 8 (by kernel_rfl) (by kernel_rfl) (by kernel_rfl) (by kernel_rfl)
  exact LaidIn.append h1 (LaidIn.append h2 h3 (by kernel_rfl)) (by kernel_rfl)
end Go.Proofs.YtejccafolfeabaaGreatDoor

/-
  THE LAST STEP OF A LAW's ROW: it answers true, and nothing that lay has turned; an argument that is a list of ranges, opened. No walk.
-/
namespace Go.Proofs.YtejccafolfeabaaGreatDoor
open Go.ChangeShapes Go.WideShapes Go.ChangeAt Go.RowKit

section
variable {H : Type} {enc : TypeId × Value → H} {P : Program}
theorem trodAll_stays {W W' : World} {sp' : Nat → Bool} (hl : laidOutB P = true) : ∀ {ts : List TypeId} {vs : List Value} {ds : List (DataW H)} {ps : List MemPlace}, (∀ t ∈ ts, P.readableRec t = true ∧ t < P.types.size) →
    DataW.TrodAll enc P W 0 (fun _ => true) true ts vs ds ps → (∀ p ∈ ps, W.sameAt W' p) → (∀ p ∈ ps, sp' p.block = true) → DataW.TrodAll enc P W' 0 sp' true ts vs ds ps
  | [], vs, ds, ps, _, h, _, _ => by
    obtain ⟨rfl, rfl, rfl⟩ := trodAll_nil h
    exact trodAll_mk0
  | t :: ts, vs, ds, ps, ht, h, h1, h2 => by
    obtain ⟨v, vs', d, ds', p, q, rfl, rfl, rfl, h0, hr⟩ := trodAll_cons h
    exact trodAll_cons_mk (WideElems.Trod_stays hl (ht t (by simp)).1 (ht t (by simp)).2 h0 (fun x hx => h1 x (by simp [hx])) (fun x hx => h2 x (by simp [hx])))
      (trodAll_stays hl (fun u hu => ht u (by simp [hu])) hr (fun x hx => h1 x (by simp [hx])) (fun x hx => h2 x (by simp [hx])))
/-- A law that answers true and turns nothing that lay. -/
theorem post_law {f : Func} {s : ChangeSpec} {apart fresh handsOn again : Bool} {W W' : World} {args : Array Value} {ds gs : List (DataW H)} {before : List MemPlace} {tb : TypeId}
    (hl : laidOutB P = true) (hps : (f.params.toList.all fun t => P.readableRec t && decide (t < P.types.size)) = true) (hres : f.resultTypes = #[tb]) (htb : P.underlying tb = some .bool) (hv : s.vars = [])
    (hfn : ∀ (gs' : List (DataW H)), gs' = [] → s.fn H (ds ++ gs') = { results := [.lit (.bool true)], args := ds })
    (hW : DataW.Whole enc P f.params.toList s.vars apart W args.toList ds gs before) (hb : Below W.heap.size W W') :
    s.post enc P f apart fresh handsOn again W args (.bool true) W' := by
  have hlt : ∀ p ∈ before, p.block < W.heap.size := fun p hp => hW.lt p hp
  have hW' := hW
  obtain ⟨p, q, hA, hV, rfl, hfz, hnd⟩ := hW'
  have hA' : DataW.TrodAll enc P W 0 (fun _ => true) true f.params.toList args.toList ds p := hA
  rw [hv] at hV
  obtain ⟨rfl, rfl⟩ := trodVars_none hV
  have hpr : ∀ t ∈ f.params.toList, P.readableRec t = true ∧ t < P.types.size := fun t ht => by
    have := List.all_eq_true.1 hps t ht
    simpa using this
  have hres' : ∀ (b : Nat) (sp : Nat → Bool) (hd : Bool), DataW.TrodAll enc P W' b sp hd f.resultTypes.toList ((Value.bool true).resultList f.resultTypes.size) (s.fn H (ds ++ [])).results [] := fun b sp hd => by
    rw [hres, hfn [] rfl]
    exact trodAll_cons_mk (shut_bool htb _) trodAll_mk0
  have hargs : ∀ sp : Nat → Bool, (∀ x ∈ p ++ [], sp x.block = true) → DataW.TrodAll enc P W' 0 sp true f.params.toList args.toList (s.fn H (ds ++ [])).args p := fun sp hsp => by
    rw [hfn [] rfl]
    exact trodAll_stays hl hpr hA' (fun x hx => hb.same (hlt x (by simp [hx]))) (fun x hx => hsp x (by simp [hx]))
  have hvars : ∀ sp : Nat → Bool, DataW.TrodVars enc P W' sp s.vars (s.fn H (ds ++ [])).vars [] := fun sp => by
    rw [hv, hfn [] rfl]
    exact rfl
  have hold : ∀ x ∈ p ++ [], (fun b => decide (b < W.heap.size)) x.block = true := fun x hx => by simpa using hlt x hx
  refine ⟨ds, [], p ++ [], [], p, [], hW, hres' _ _ _, hargs _ hold, hvars _, World.keptBut_mono (fun x hx => ⟨hx, ?_⟩) (hb.frame (· ∈ p ++ [])), fun _ => ?_⟩
  · simpa using hx
  · refine ⟨?_, _, _, ([] ++ p) ++ [], ⟨[] ++ p, [], trodAll_append (hargs _ (fun _ _ => rfl)) (hres' _ _ _), hvars _, rfl, ?_, ?_⟩, ?_⟩
    · exact ok_one hres rfl (okWide_bool_mk htb _)
    · intro b off hp
      have hin : MemPlace.cell b off ∈ p ++ [] := by simpa using hp
      rw [hb.frozen (hlt _ hin)]
      exact hfz b off hin
    · intro ha
      simpa using hnd ha
    · intro x hx _
      simpa using hx
end

theorem cellsR : Tryz.prog.cellsOf 80 = 2 := by kernel_rfl
theorem cellsI32 : Tryz.prog.cellsOf 21 = 1 := by kernel_rfl
set_option maxRecDepth 100000 in
/-- An argument that is a list of ranges. -/
theorem open_ranges {H : Type} {enc : TypeId × Value → H} {W : World} {r : Reach} {b0 : Nat} {v : Value} {d : DataW H} {p : List MemPlace} (hv : Value.okWide Tryz.prog W r b0 37 v) (hd : DataW.Trod enc Tryz.prog W 0 (fun _ => true) true 37 v d p) :
    ∃ (A : Option Addr) (n c : Nat) (l : List (Int × Int)), v = .slice A n c ∧ Rd W 2 A (l.map encR) ∧ l.length = n ∧ n ≤ maxLen ∧ (n = 0 ∨ ∃ el sp, d = .slice el sp ∧ el.length = n) ∧ ∀ x ∈ l, (-2147483648 ≤ x.1 ∧ x.1 ≤ 2147483647) ∧ (-2147483648 ≤ x.2 ∧ x.2 ≤ 2147483647) := by
  obtain ⟨A, n, c, rfl⟩ := okWide_slice Tryz.underlying37 hv
  obtain ⟨fuel, hf⟩ := hd
  rcases Go.Deep.open_slice_pairs Tryz.underlying37 Tryz.underlying80 cellsR rfl rfl cellsI32 cellsI32 hf with ⟨hc, _⟩ | ⟨a, len, cap, m, k, V0, V1, D0, D1, P0, P1, hc, _, hl, hm, hmm, hxd, hx⟩
  · simp [Value.cells] at hc
    obtain ⟨rfl, rfl, rfl⟩ := hc
    exact ⟨none, 0, 0, [], rfl, Rd.nil_ _ _ _, rfl, by unfold maxLen; omega, Or.inl rfl, by simp⟩
  · simp [Value.cells] at hc
    obtain ⟨rfl, rfl, rfl⟩ := hc
    have hmn : m = c := by simpa using hmm
    have key : ∀ i, i < n → ∃ lo hi : Int, W.cell? (a.add (i * 2)) = some (.int .i32 lo) ∧ W.cell? (a.add (i * 2 + 1)) = some (.int .i32 hi) ∧ (-2147483648 ≤ lo ∧ lo ≤ 2147483647) ∧ (-2147483648 ≤ hi ∧ hi ≤ 2147483647) := by
      intro i hi
      obtain ⟨h0, h1, h2, h3⟩ := hx i (by omega)
      obtain ⟨lo, e0, _, w0⟩ := DataW.trod_int Tryz.underlying21 h2
      obtain ⟨hi', e1, _, w1⟩ := DataW.trod_int Tryz.underlying21 h3
      simp at e0 e1
      rw [e0] at h0; rw [e1] at h1
      exact ⟨lo, hi', h0, h1, bounds_i32 w0, bounds_i32 w1⟩
    obtain ⟨f, hf2⟩ : ∃ f : Nat → Int × Int, ∀ i, i < n → W.cell? (a.add (i * 2)) = some (.int .i32 (f i).1) ∧ W.cell? (a.add (i * 2 + 1)) = some (.int .i32 (f i).2) ∧ (-2147483648 ≤ (f i).1 ∧ (f i).1 ≤ 2147483647) ∧ (-2147483648 ≤ (f i).2 ∧ (f i).2 ≤ 2147483647) :=
      ⟨fun i => if h : i < n then (Classical.choose (key i h), Classical.choose (Classical.choose_spec (key i h))) else (0, 0), fun i hi => by
        simp only [dif_pos hi]
        exact Classical.choose_spec (Classical.choose_spec (key i hi))⟩
    clear key hx
    refine ⟨some a, n, c, (List.range n).map f, rfl, ?_, by simp, by omega, Or.inr ⟨_, _, congrArg Prod.fst hxd, by simp⟩, ?_⟩
    · intro hne
      have hn0 : 0 < n := by
        rcases Nat.eq_zero_or_pos n with h | h
        · subst h; simp at hne
        · exact h
      obtain ⟨b, off, spot⟩ := a
      have hsp : spot = none := by
        have h0 := (hf2 0 hn0).1
        simpa [Addr.add] using World.cell?_spot h0
      subst hsp
      have ea : ∀ q, (⟨b, off, none⟩ : Addr).add q = ⟨b, off + q, none⟩ := fun q => by
        unfold Addr.add; split
        · rename_i hq; subst hq; rfl
        · rfl
      refine ⟨b, off, rfl, fun i j x u hi hj => ?_⟩
      have hin : i < n := by
        have := (List.getElem?_eq_some_iff.1 hi).1
        simpa using this
      have hxe : encR (f i) = x := by
        simp [hin] at hi; exact hi
      subst hxe
      obtain ⟨h0, h1, _⟩ := hf2 i hin
      rw [ea] at h0 h1
      match j, hj with
      | 0, hj => simp [encR] at hj; subst hj; simpa using h0
      | 1, hj => simp [encR] at hj; subst hj; simpa [Nat.add_assoc] using h1
    · intro x hx'
      obtain ⟨i, hi, rfl⟩ := List.mem_map.1 hx'
      have := hf2 i (List.mem_range.1 hi)
      exact ⟨this.2.2.1, this.2.2.2⟩
/-- A list of ranges that the reach holds is no longer than 2^44. -/
theorem sized_ranges {H : Type} {ts : List TypeId} {ds : List (DataW H)} (h : (DataW.weightsEach Tryz.prog ts ds).all (· ≤ reachBytes) = true) {j : Nat} {d : DataW H} {n : Nat} (ht : ts[j]? = some 37) (hd : ds[j]? = some d)
    (hn : n = 0 ∨ ∃ el sp, d = .slice el sp ∧ el.length = n) : n ≤ 17592186044416 := by
  rcases hn with rfl | ⟨el, sp, rfl, rfl⟩
  · omega
  · have h1 := sized_slice h ht hd Tryz.underlying37
    rw [show Tryz.prog.bytesOf 80 = 8 by kernel_rfl] at h1
    have h2 := reachBytes_lt
    simp only [Nat.reducePow] at h2
    omega
set_option maxRecDepth 100000 in
/-- An argument that is a list of runes. -/
theorem open_runes {H : Type} {enc : TypeId × Value → H} {W : World} {r : Reach} {b0 : Nat} {v : Value} {d : DataW H} {p : List MemPlace} (hv : Value.okWide Tryz.prog W r b0 24 v) (hd : DataW.Trod enc Tryz.prog W 0 (fun _ => true) true 24 v d p) :
    ∃ (A : Option Addr) (n c : Nat) (q : List Int), v = .slice A n c ∧ Rd W 1 A (q.map fun r => [.int .i32 r]) ∧ q.length = n ∧ n ≤ maxLen := by
  obtain ⟨A, n, c, rfl⟩ := okWide_slice Tryz.underlying24 hv
  obtain ⟨fuel, hf⟩ := hd
  rcases Go.ChangeShapes.open_ints Tryz.underlying24 Tryz.underlying21 cellsI32 hf with ⟨hc, _⟩ | ⟨a, len, cap, zs, hc, _, hl, hm, hzl, _, hx, _⟩
  · simp [Value.cells] at hc
    obtain ⟨rfl, rfl, rfl⟩ := hc
    exact ⟨none, 0, 0, [], rfl, Rd.nil_ _ _ _, rfl, by unfold maxLen; omega⟩
  · simp [Value.cells] at hc
    obtain ⟨rfl, rfl, rfl⟩ := hc
    have hzc : zs.length = c := by simpa using hzl
    refine ⟨some a, n, c, zs.take n, rfl, ?_, by simp; omega, by omega⟩
    intro hne
    have hn0 : 0 < n := by
      rcases Nat.eq_zero_or_pos n with h | h
      · subst h; simp at hne
      · exact h
    obtain ⟨b, off, spot⟩ := a
    have hsp : spot = none := by
      have h0 := hx 0 (by omega)
      simpa [Addr.add] using World.cell?_spot h0
    subst hsp
    have ea : ∀ q, (⟨b, off, none⟩ : Addr).add q = ⟨b, off + q, none⟩ := fun q => by
      unfold Addr.add; split
      · rename_i hq; subst hq; rfl
      · rfl
    refine ⟨b, off, rfl, fun i j x u hi hj => ?_⟩
    have hin : i < n := by
      have := (List.getElem?_eq_some_iff.1 hi).1
      simp at this; omega
    have hxe : [Value.int .i32 (zs.getD i 0)] = x := by
      rw [List.getElem?_map, List.getElem?_take_of_lt hin] at hi
      rw [List.getD_eq_getElem?_getD]
      rcases hz : zs[i]? with _ | z
      · rw [hz] at hi; simp at hi
      · rw [hz] at hi; simpa using hi
    subst hxe
    have h0 := hx i (by omega)
    rw [ea] at h0
    match j, hj with
    | 0, hj => simp at hj; subst hj; simpa using h0
end Go.Proofs.YtejccafolfeabaaGreatDoor

/-
  PLAIN, for the walks of kerfref04: a rune in quotes by the document's word; the scan of a line, step by step; trimmed from both ends.
-/
namespace Go.Proofs.YtejccafolfeabaaGreatDoor

theorem runeAt_app : ∀ (p l : List UInt8) (a : Nat), runeAt (bytesOf (p ++ l)) (p.length + a) = runeAt (bytesOf l) a
  | [], l, a => by rw [List.nil_append, List.length_nil, Nat.zero_add]
  | c :: p, l, a => by rw [List.cons_append, List.length_cons, show p.length + 1 + a = (p.length + a) + 1 by omega, runeAt_sh]; exact runeAt_app p l a
theorem runeAt_drop (s : ByteArray) (a b : Nat) (h : a ≤ s.size) : runeAt s (a + b) = runeAt (bytesOf (s.data.toList.drop a)) b := by
  have h1 := runeAt_app (s.data.toList.take a) (s.data.toList.drop a) b
  rw [List.take_append_drop, bytesOf_data, List.length_take, size_data, Nat.min_eq_left h] at h1
  exact h1
/-- The document's word on a rune in quotes. -/
theorem quoted_qt (s : ByteArray) (a : Nat) (h : a ≤ s.size) : match qtL (s.data.toList.drop a) with
    | some k => (quotedP s a).2.2 = true ∧ (quotedP s a).2.1 + 2 = k
    | none => (quotedP s a).2.2 = false := by
  unfold quotedP
  cases hd : s.data.toList.drop a with
  | nil =>
    have : (rest s a).head? = none := by unfold rest; rw [hd]; rfl
    rw [if_neg (by rw [this]; simp)]; rfl
  | cons c r =>
    have h1 := runeAt_drop s a 1 h
    rw [hd] at h1
    rw [qtS_cons, ← h1]
    have h2 : (rest s a).head? = some c := by unfold rest; rw [hd]; rfl
    have h3 : (rest s (a + 1 + (runeAt s (a + 1)).2)).head? = r[(runeAt s (a + 1)).2]? := by
      unfold rest
      rw [Nat.add_assoc, ← List.drop_drop, hd, Nat.add_comm 1, List.drop_succ_cons, List.head?_drop]
    rw [h2, h3]
    by_cases hc : c = 39 ∧ (runeAt s (a + 1)).2 ≠ 0 ∧ r[(runeAt s (a + 1)).2]? = some 39
    · rw [if_pos hc, if_pos ⟨by rw [hc.1], hc.2⟩]
      exact ⟨rfl, rfl⟩
    · rw [if_neg hc, if_neg (fun k => hc ⟨by injection k.1, k.2⟩)]

def cutD (l : List UInt8) (i : Nat) (semi : Option Nat) : Nat × Option Nat := cutGo l.length l i semi
theorem cutD_fuel {f : Nat} {l : List UInt8} (i : Nat) (semi : Option Nat) (h : l.length ≤ f) : cutGo f l i semi = cutD l i semi := by
  unfold cutD
  rw [cutGo_eq f l i semi h, cutGo_eq l.length l i semi (Nat.le_refl _)]
/-- How far the scan has come. -/
def CutAt (L : List UInt8) (i : Nat) (semi : Option Nat) : Prop := i ≤ L.length ∧ cutD (L.drop i) i semi = cutD L 0 none ∧ ∀ k, semi = some k → k ≤ i
theorem cutAt_first (L : List UInt8) : CutAt L 0 none := ⟨by omega, by rw [List.drop_zero], fun k h => by cases h⟩
theorem cutAt_qt {L : List UInt8} {i k : Nat} {semi : Option Nat} (h : CutAt L i semi) (hq : qtL (L.drop i) = some k) : CutAt L (i + k) semi := by
  have hk := qtL_some hq
  rw [List.length_drop] at hk
  refine ⟨by omega, ?_, fun j hj => by have := h.2.2 j hj; omega⟩
  rw [← h.2.1]
  cases hd : L.drop i with
  | nil => rw [hd] at hq; cases hq
  | cons x r =>
    rw [hd] at hq
    unfold cutD
    rw [List.length_cons, cutGo]
    simp only [hq]
    have h2 : (x :: r).drop k = L.drop (i + k) := by rw [← hd, List.drop_drop]
    rw [h2]
    have h3 : (L.drop (i + k)).length ≤ r.length := by
      have : (L.drop i).length = r.length + 1 := by rw [hd]; rfl
      rw [List.length_drop] at this ⊢; omega
    rw [cutD_fuel (i + k) semi h3]; rfl
section
variable {L : List UInt8} {i : Nat} {semi : Option Nat} {x : UInt8} (h : CutAt L i semi) (hx : L[i]? = some x) (hq : qtL (L.drop i) = none)
include h hx hq
theorem cutAt_step : cutD L 0 none = if x = 35 then (i, semi) else if x = 59 ∧ semi = none then cutD (L.drop (i + 1)) (i + 1) (some i) else cutD (L.drop (i + 1)) (i + 1) semi := by
  rw [← h.2.1, drop_at hx]
  rw [drop_at hx] at hq
  unfold cutD
  rw [List.length_cons, cutGo]
  simp only [hq]
theorem cutAt_hash (he : x = 35) : cutD L 0 none = (i, semi) := by rw [cutAt_step h hx hq, if_pos he]
theorem cutAt_semi (he : x = 59) (hs : semi = none) : CutAt L (i + 1) (some i) :=
  ⟨(List.getElem?_eq_some_iff.1 hx).1, by rw [cutAt_step h hx hq, if_neg (by rw [he]; decide), if_pos ⟨he, hs⟩], fun k hk => by injection hk with hk; omega⟩
theorem cutAt_go (he : x ≠ 35) (hs : ¬ (x = 59 ∧ semi = none)) : CutAt L (i + 1) semi :=
  ⟨(List.getElem?_eq_some_iff.1 hx).1, by rw [cutAt_step h hx hq, if_neg he, if_neg hs], fun k hk => by have := h.2.2 k hk; omega⟩
end
theorem cutAt_end {L : List UInt8} {i : Nat} {semi : Option Nat} (h : CutAt L i semi) (hi : ¬ i < L.length) : cutD L 0 none = (L.length, semi) := by
  rw [← h.2.1, List.drop_of_length_le (by omega)]
  have : i = L.length := by have := h.1; omega
  rw [← this]; rfl
theorem cutD_is (L : List UInt8) : cutD L 0 none = (hashP L, findP 59 (L.take (hashP L))) := by
  unfold cutD
  rw [cutGo_eq L.length L 0 none (Nat.le_refl _), Nat.zero_add]
  congr 1
  cases findP 59 (L.take (hashP L)) <;> rfl

theorem ext_bytes (l : List UInt8) (a : Nat) : (bytesOf l).extract a (bytesOf l).size = bytesOf (l.drop a) := by
  apply ByteArray.ext; apply Array.toList_inj.1
  rw [rest_extract, bytesOf_list]; unfold rest; rw [bytesOf_list]
theorem ext_bytes0 (l : List UInt8) (a : Nat) : (bytesOf l).extract 0 a = bytesOf (l.take a) := by
  apply ByteArray.ext; apply Array.toList_inj.1
  rw [Lib.extract_data, bytesOf_list, bytesOf_list]; simp
theorem ext_bytes2 (l : List UInt8) (a b : Nat) : (bytesOf l).extract a b = bytesOf ((l.drop a).take (b - a)) := by
  apply ByteArray.ext; apply Array.toList_inj.1
  rw [Lib.extract_data, bytesOf_list, bytesOf_list]
theorem trim_last {l : List UInt8} {c : UInt8} (hl : l.getLast? = some c) : (blkB c = true → trimR l = trimR (l.take (l.length - 1))) ∧ (blkB c = false → trimR l = l) := by
  have hs : l = l.dropLast ++ [c] := by
    rcases List.eq_nil_or_concat l with rfl | ⟨o, y, rfl⟩
    · cases hl
    · simp at hl; subst hl; simp
  have hd : l.take (l.length - 1) = l.dropLast := by rw [List.dropLast_eq_take]
  rw [hd]
  constructor
  · intro h
    conv => lhs; rw [hs]
    exact trimR_app (by intro d hd; simp at hd; subst hd; exact h)
  · intro h
    unfold trimR
    rw [hs, List.reverse_append]
    rw [show [c].reverse ++ l.dropLast.reverse = c :: l.dropLast.reverse from rfl, dropWhile_stop h]
    simp
theorem trimR_nil : trimR [] = [] := rfl
theorem drop_blank {c : UInt8} {r : List UInt8} (h : blkB c = true) : (c :: r).dropWhile blkB = r.dropWhile blkB := by rw [List.dropWhile_cons, if_pos h]
end Go.Proofs.YtejccafolfeabaaGreatDoor

/-
  kerfref04: blank, trim, cut, walked.
-/
namespace Go.Proofs.YtejccafolfeabaaGreatDoor
open Go.RowKit Go.Maps

theorem blk_true {c : UInt8} (h : (c.toNat : Int) = 32 ∨ (c.toNat : Int) = 9) : blkB c = true := by
  have h1 : c = 32 ↔ c.toNat = 32 := u8_eq (n := 32) (by omega)
  have h2 : c = 9 ↔ c.toNat = 9 := u8_eq (n := 9) (by omega)
  simp only [blkB, Bool.or_eq_true, beq_iff_eq, h1, h2]; omega
theorem blk_false {c : UInt8} (h : ¬ ((c.toNat : Int) = 32 ∨ (c.toNat : Int) = 9)) : blkB c = false := by
  cases hb : blkB c with
  | false => rfl
  | true =>
    have h1 : c = 32 ↔ c.toNat = 32 := u8_eq (n := 32) (by omega)
    have h2 : c = 9 ↔ c.toNat = 9 := u8_eq (n := 9) (by omega)
    refine absurd ?_ h
    simp only [blkB, Bool.or_eq_true, beq_iff_eq, h1, h2] at hb; omega
theorem vblank_any (c : UInt8) (w : World) : Calls Tryz.prog 113 #[.int .u8 (c.toNat : Int)] w fun e w' => e = .returned (.bool (blkB c)) ∧ w = w' := by
  have HT := Lib.hid (@blk_true c)
  have HF := Lib.hid (@blk_false c)
  generalize (c.toNat : Int) = z at HT HF
  rcases (by omega : z = 32 ∨ z = 9 ∨ (z ≠ 32 ∧ z ≠ 9)) with h | h | ⟨h, h'⟩
  · have HV := Lib.hid (HT.out (.inl h))
    subst h
    go_enter Tryz.func113, Tryz.ntmps113
    go_wp2
    go_ret
    exact ⟨by rw [HV.out]; rfl, rfl⟩
  · have HV := Lib.hid (HT.out (.inr h))
    subst h
    go_enter Tryz.func113, Tryz.ntmps113
    go_wp2
    go_ret
    exact ⟨by rw [HV.out]; rfl, rfl⟩
  · have HV := Lib.hid (HF.out (by omega))
    have h1 : (z == 32) = false := beq_eq_false_iff_ne.2 h
    have h2 : (z == 9) = false := beq_eq_false_iff_ne.2 h'
    go_enter Tryz.func113, Tryz.ntmps113
    go_wp2
    go_ret
    exact ⟨by rw [HV.out]; rfl, rfl⟩

def strSize : Value → Nat
  | .string s => s.size
  | _ => 0
set_option maxRecDepth 100000 in
set_option maxHeartbeats 2000000 in
theorem vtrim_any (L : List UInt8) (w : World) (hL : L.length ≤ 1000000) : Calls Tryz.prog 78 #[.string (bytesOf L)] w fun e w' => e = .returned (.string (bytesOf (trimL L))) ∧ w = w' := by
  have HTE := Lib.hid (trimL_eq L)
  go_enter Tryz.func78, Tryz.ntmps78
  go_wp2
  go_loopw [0] (fun v wr => ∃ l : List UInt8, v = .string (bytesOf l) ∧ l.length ≤ L.length ∧ Hid (l.dropWhile blkB = L.dropWhile blkB) ∧ wr = w) (fun v _ => strSize v)
  case atStart => exact ⟨L, rfl, by omega, rfl, rfl⟩
  case round =>
    obtain ⟨l, rfl, hl, HD, rfl⟩ := hrel
    have hsz : (bytesOf l).size = l.length := bytesOf_size l
    by_cases hb : ∃ c r, l = c :: r ∧ blkB c = true
    · obtain ⟨c, r, rfl, hc⟩ := hb
      have h0 : 0 < (bytesOf (c :: r)).size := by rw [hsz]; simp
      have hix := index_at (bytesOf (c :: r)) 0 0 rfl h0
      have hg : (bytesOf (c :: r))[0]'h0 = c := by have := get_list h0; rw [bytesOf_list] at this; simpa using this.symm
      rw [hg] at hix
      have hgi : (((bytesOf (c :: r))[0]'h0).toNat : Int) = (c.toNat : Int) := by rw [hg]
      have HX := Lib.hid (ext_bytes (c :: r) 1)
      rw [hsz] at HX
      have hl2 : (r.length : Int) + 1 ≤ 1000000 := by simp at hl; omega
      clear hg
      go_wp2_with (go_at_call 113; refine (vblank_any c _).mono ?_; rw [hc]; rintro e w' ⟨rfl, rfl⟩)
      go_roundw
      case rel => exact ⟨r, by first | exact congrArg Value.string HX.out | (rw [← ext_bytes (c :: r) 1]; rfl), by simp at hl; omega, Lib.hid (by rw [← HD.out, drop_blank hc]), by first | rfl | trivial⟩
      case measure => simp only [strSize, ByteArray.size_extract, bytesOf_size, List.length_cons]; omega
    · have HLD : Hid (l = L.dropWhile blkB) := Lib.hid (by
        rw [← HD.out]
        cases l with
        | nil => rfl
        | cons c r =>
          have : blkB c = false := by
            cases hq : blkB c with
            | false => rfl
            | true => exact absurd ⟨c, r, rfl, hq⟩ hb
          exact (dropWhile_stop this).symm)
      have HTR : Hid (trimL L = trimR l) := Lib.hid (by rw [HTE.out, HLD.out])
      have hstop : l = [] ∨ ∃ c r, l = c :: r ∧ blkB c = false := by
        cases l with
        | nil => exact .inl rfl
        | cons c r =>
          refine .inr ⟨c, r, rfl, ?_⟩
          cases hq : blkB c with
          | false => rfl
          | true => exact absurd ⟨c, r, rfl, hq⟩ hb
      clear hb HD HLD
      rcases hstop with rfl | ⟨c, r, rfl, hc⟩
      · have HT0 : Hid (trimL L = []) := Lib.hid (by rw [HTR.out]; rfl)
        have hz0 : (bytesOf []).size = 0 := rfl
        go_wp2_with fail
        go_loopw [0] (fun v wq => v = .string (bytesOf []) ∧ wq = wr) (fun _ _ => 0)
        case atStart => exact ⟨rfl, rfl⟩
        case round =>
          obtain ⟨rfl, rfl⟩ := hrel
          go_wp2
          go_ret
          exact ⟨by rw [HT0.out]; rfl, rfl⟩
      · have h0 : 0 < (bytesOf (c :: r)).size := by rw [hsz]; simp
        have hix := index_at (bytesOf (c :: r)) 0 0 rfl h0
        have hg : (bytesOf (c :: r))[0]'h0 = c := by have := get_list h0; rw [bytesOf_list] at this; simpa using this.symm
        rw [hg] at hix
        have hgi : (((bytesOf (c :: r))[0]'h0).toNat : Int) = (c.toNat : Int) := by rw [hg]
        clear hg
        go_wp2_with (go_at_call 113; refine (vblank_any c _).mono ?_; rw [hc]; rintro e w' ⟨rfl, rfl⟩)
        go_loopw [0] (fun v wq => ∃ l : List UInt8, v = .string (bytesOf l) ∧ l.length ≤ L.length ∧ Hid (trimR l = trimL L) ∧ wq = wr) (fun v _ => strSize v)
        case atStart => exact ⟨c :: r, rfl, hl, Lib.hid HTR.out.symm, rfl⟩
        case round =>
          clear hix hgi h0
          obtain ⟨l, rfl, hl2, HD, rfl⟩ := hrel
          have hsz2 : (bytesOf l).size = l.length := bytesOf_size l
          rcases List.eq_nil_or_concat l with rfl | ⟨o, y, rfl⟩
          · have HT0 : Hid (trimL L = []) := Lib.hid (by rw [← HD.out]; rfl)
            have hz0 : (bytesOf []).size = 0 := rfl
            go_wp2
            go_ret
            exact ⟨by rw [HT0.out]; rfl, rfl⟩
          · rw [List.concat_eq_append] at *
            have hlast : (o ++ [y]).getLast? = some y := by simp
            have hol : (o ++ [y]).length = o.length + 1 := by simp
            rw [hol] at hsz2 hl2
            have hp : o.length < (bytesOf (o ++ [y])).size := by omega
            have hix := index_at (bytesOf (o ++ [y])) ((o.length : Int) + 1 - 1) o.length (by omega) hp
            have hix2 := index_at (bytesOf (o ++ [y])) (o.length : Int) o.length rfl hp
            have hg : (bytesOf (o ++ [y]))[o.length]'hp = y := by have := get_list hp; rw [bytesOf_list] at this; simpa using this.symm
            rw [hg] at hix hix2
            have hgi : (((bytesOf (o ++ [y]))[o.length]'hp).toNat : Int) = (y.toNat : Int) := by rw [hg]
            clear hg
            cases hy : blkB y with
            | true =>
              have HX : Hid ((bytesOf (o ++ [y])).extract 0 o.length = bytesOf o) := Lib.hid (by rw [ext_bytes0]; simp)
              have HD' : Hid (trimR o = trimL L) := Lib.hid (by rw [← HD.out, (trim_last hlast).1 hy, hol, Nat.add_sub_cancel]; simp)
              go_wp2_with (go_at_call 113; refine (vblank_any y _).mono ?_; rw [hy]; rintro e w' ⟨rfl, rfl⟩)
              go_roundw
              case rel => exact ⟨o, congrArg Value.string HX.out, by omega, HD', by first | rfl | trivial⟩
              case measure => simp only [strSize, ByteArray.size_extract, bytesOf_size, List.length_append, List.length_singleton]; omega
            | false =>
              have HD' : Hid (trimL L = o ++ [y]) := Lib.hid (by rw [← HD.out, (trim_last hlast).2 hy])
              go_wp2_with (go_at_call 113; refine (vblank_any y _).mono ?_; rw [hy]; rintro e w' ⟨rfl, rfl⟩)
              go_ret
              exact ⟨by rw [HD'.out]; rfl, rfl⟩
end Go.Proofs.YtejccafolfeabaaGreatDoor

/-
  kerflaw04: texts, ints, ranged, walked (two lists that are the same).
-/
namespace Go.Proofs.YtejccafolfeabaaGreatDoor
open Go.RowKit Go.Maps

theorem Rd.atS {w : World} {A : Option Addr} {l : List (List UInt8)} {k : Nat} {x : List UInt8} (h : Rd w 1 A (l.map encNm)) (hk : l[k]? = some x) : ∃ b off, A = some ⟨b, off, none⟩ ∧ w.cell? ⟨b, off + k, none⟩ = some (.string (bytesOf x)) := by
  obtain ⟨b, off, rfl, hc⟩ := h (by intro e; cases l with | nil => simp at hk | cons _ _ => simp at e)
  have h0 := hc k 0 (encNm x) (.string (bytesOf x)) (by simp [hk]) rfl
  exact ⟨b, off, rfl, by simpa using h0⟩
set_option maxRecDepth 100000 in
set_option maxHeartbeats 1000000 in
theorem qtexts_any (A B : Option Addr) (n c e : Nat) (l : List (List UInt8)) (w : World) (hA : Rd w 1 A (l.map encNm)) (hB : Rd w 1 B (l.map encNm)) (hl : l.length = n) (hn : n ≤ 4000000) :
    Calls Tryz.prog 24 #[.slice A n c, .slice B n e] w fun e w' => e = .returned (.bool true) ∧ ∃ k, w' = w.drewN k := by
  have Hl := Lib.hid hl
  clear hl
  go_enter Tryz.func24, Tryz.ntmps24
  go_wp2
  go_loopw [5] (fun v wr => ∃ i k : Nat, v = .int .i64 i ∧ i ≤ n ∧ wr = w.drewN k) (fun v _ => n - (intOf v).toNat)
  case atStart => exact ⟨0, 0, rfl, by omega, rfl⟩
  case round =>
    obtain ⟨i, k, rfl, hi, rfl⟩ := hrel
    by_cases hlt : i < n
    · obtain ⟨x, Hx⟩ : ∃ x, Hid (l[i]? = some x) := ⟨_, Lib.hid (List.getElem?_eq_getElem (show i < l.length by have := Hl.out; omega))⟩
      obtain ⟨b, off, rfl, h1⟩ := hA.atS Hx.out
      obtain ⟨b', off', rfl, h2⟩ := hB.atS Hx.out
      go_wp2_with fail
      go_quiet (fail)
      go_wp2
      go_roundw
      case rel => exact ⟨i + 1, _, by go_num, by omega, by first | rfl | exact World.drewN_drewN⟩
      case measure => simp [intOf]; omega
    · go_wp2
      go_ret
      exact ⟨rfl, k, rfl⟩

theorem newP_code {t : List UInt8} {x : Int × Nat} (h : newP t = .error x) : 1 ≤ x.1 := by
  unfold newP at h
  split at h
  · injection h with h; subst h; decide
  · have key : ∀ (L : List (List UInt8)) (d : DbP) (i : Nat), linesGo d L i = .error x → 1 ≤ x.1 := by
      intro L
      induction L with
      | nil => intro d i h; cases h
      | cons a r ih =>
        intro d i h
        unfold linesGo at h
        split at h
        · rename_i e he
          injection h with h; subst h
          simp only
          unfold stepL at he
          split at he
          · cases he
          · injection he with he; omega
          · have := addL_err he; omega
        · exact ih _ _ h
    exact key _ _ _ h
end Go.Proofs.YtejccafolfeabaaGreatDoor

/-
  kerfref04: Class, meet, walked.
-/
namespace Go.Proofs.YtejccafolfeabaaGreatDoor
open Go.RowKit Go.Maps

/-- The document's database, its parts. -/
structure RfX (w : World) (base p x : Nat) (An : Option Addr) (nn cn : Nat) (As : Option Addr) (ns cs : Nat) (xs : List (Option Addr × Nat × Nat)) (N : List (List UInt8)) (S : List (List (Int × Int))) : Prop where
  blk : Blk w p 75 #[.slice An nn cn, .slice As ns cs]
  pb : base ≤ p
  hn : Own w base 9 1 An nn cn (N.map encNm)
  hs : Own w base 37 1 As ns cs (xs.map encSl)
  hx : Sets w base xs S
  xp : x ≠ p
  xn : ∀ a, An = some a → a.block ≠ x
  xs_ : ∀ a, As = some a → a.block ≠ x
structure RfB (w : World) (base p x : Nat) (N : List (List UInt8)) (S : List (List (Int × Int))) : Prop where
  ex : ∃ (An : Option Addr) (nn cn : Nat) (As : Option Addr) (ns cs : Nat) (xs : List (Option Addr × Nat × Nat)), RfX w base p x An nn cn As ns cs xs N S
section
variable {w w' : World} {base p x : Nat} {An : Option Addr} {nn cn : Nat} {As : Option Addr} {ns cs : Nat} {xs : List (Option Addr × Nat × Nat)} {N : List (List UInt8)} {S : List (List (Int × Int))}
theorem RfX.below (h : RfX w base p x An nn cn As ns cs xs N S) (hb : Below w.heap.size w w') : RfX w' base p x An nn cn As ns cs xs N S := ⟨h.blk.below hb, h.pb, h.hn.below hb, h.hs.below hb, h.hx.below hb, h.xp, h.xn, h.xs_⟩
theorem RfB.below (h : RfB w base p x N S) (hb : Below w.heap.size w w') : RfB w' base p x N S := by
  obtain ⟨a1, a2, a3, a4, a5, a6, a7, h⟩ := h.ex
  exact ⟨a1, a2, a3, a4, a5, a6, a7, h.below hb⟩
theorem RfX.lenN (h : RfX w base p x An nn cn As ns cs xs N S) : N.length = nn := by simpa using h.hn.len
theorem RfX.lenS (h : RfX w base p x An nn cn As ns cs xs N S) : xs.length = ns ∧ S.length = ns := by
  have := h.hs.len; rw [List.length_map] at this
  exact ⟨this, by rw [← h.hx.len]; exact this⟩
theorem types_rf : (9 : TypeId) ≠ 37 ∧ (9 : TypeId) ≠ 75 ∧ (37 : TypeId) ≠ 75 ∧ (9 : TypeId) ≠ 80 ∧ (37 : TypeId) ≠ 80 ∧ (75 : TypeId) ≠ 80 := by decide
/-- A name more. -/
theorem RfX.named {w3 : World} {o : Obj} {n : List UInt8} {A3 : Option Addr} {c3 : Nat} (h : RfX w base p x An nn cn As ns cs xs N S) (ho3 : Own w3 base 9 1 A3 (nn + 1) c3 ((N ++ [n]).map encNm))
    (hg3 : (w.alloc o).grownBy w3 (An.map (·.block))) (hA3 : A3 = An ∨ A3 = some ⟨(w.alloc o).heap.size, 0, none⟩) (hx : x < w.heap.size) (hB : base ≤ w.heap.size) :
    Blk w3 p 75 #[.slice An nn cn, .slice As ns cs] ∧ RfX (w3.setCell ⟨p, 0, none⟩ (.slice A3 (nn + 1) c3)) base p x A3 (nn + 1) c3 As ns cs xs (N ++ [n]) S ∧
      KX base x w (w3.setCell ⟨p, 0, none⟩ (.slice A3 (nn + 1) c3)) ∧ KeepR base w (w3.setCell ⟨p, 0, none⟩ (.slice A3 (nn + 1) c3)) := by
  obtain ⟨t1, t2, t3, t4, t5, t6⟩ := types_rf
  have hg := grown_alloc hg3
  have b3 : Blk w3 p 75 #[.slice An nn cn, .slice As ns cs] := h.blk.grown hg (fun e => by cases An with | none => cases e | some a => simp at e; exact h.hn.off h.blk t2 a rfl e.symm)
  have s3 : Own w3 base 37 1 As ns cs (xs.map encSl) := h.hs.grown hg (fun a ha e => by cases An with | none => cases e | some b => simp at e; exact h.hn.apart h.hs t1 b a rfl ha e.symm)
  have x3 : Sets w3 base xs S := h.hx.grown hg (fun g q e => own_not_R h.hn t4 g q e)
  have hxA3 : ∀ a, A3 = some a → a.block ≠ x := fun a ha => by
    rcases hA3 with e | e
    · exact h.xn a (by rw [← e]; exact ha)
    · rw [e] at ha; injection ha with ha; subst ha; simp; omega
  refine ⟨b3, ⟨?_, h.pb, ?_, ?_, ?_, h.xp, hxA3, h.xs_⟩, ?_, ?_⟩
  · have := b3.set_ 0 (.slice A3 (nn + 1) c3)
    simpa using this
  · exact ho3.setCell (fun a ha => ho3.off b3 t2 a ha) _
  · exact s3.setCell (fun a ha => s3.off b3 t3 a ha) _
  · exact x3.setCell (blk_not_R b3 t6) _
  · refine (KX.grown hg hB (fun k hk => ?_)).trans (KX.setCell w3 h.pb (fun e => h.xp e.symm) _)
    cases An with
    | none => cases hk
    | some a => simp at hk; subst hk; exact ⟨(h.hn.lt a rfl).1, h.xn a rfl⟩
  · exact (KeepR.grown hg (fun g q e => own_not_R h.hn t4 g q e)).trans (KeepR.setCell (blk_not_R b3 t6) _)
/-- A set more: none yet. -/
theorem RfX.moreSet {w3 : World} {o : Obj} {A3 : Option Addr} {c3 : Nat} (h : RfX w base p x An nn cn As ns cs xs N S) (ho3 : Own w3 base 37 1 A3 (ns + 1) c3 ((xs ++ [(none, 0, 0)]).map encSl))
    (hg3 : (w.alloc o).grownBy w3 (As.map (·.block))) (hA3 : A3 = As ∨ A3 = some ⟨(w.alloc o).heap.size, 0, none⟩) (hx : x < w.heap.size) (hB : base ≤ w.heap.size) :
    Blk w3 p 75 #[.slice An nn cn, .slice As ns cs] ∧ RfX (w3.setCell ⟨p, 1, none⟩ (.slice A3 (ns + 1) c3)) base p x An nn cn A3 (ns + 1) c3 (xs ++ [(none, 0, 0)]) N (S ++ [[]]) ∧
      KX base x w (w3.setCell ⟨p, 1, none⟩ (.slice A3 (ns + 1) c3)) ∧ KeepR base w (w3.setCell ⟨p, 1, none⟩ (.slice A3 (ns + 1) c3)) := by
  obtain ⟨t1, t2, t3, t4, t5, t6⟩ := types_rf
  have hg := grown_alloc hg3
  have b3 : Blk w3 p 75 #[.slice An nn cn, .slice As ns cs] := h.blk.grown hg (fun e => by cases As with | none => cases e | some a => simp at e; exact h.hs.off h.blk t3 a rfl e.symm)
  have n3 : Own w3 base 9 1 An nn cn (N.map encNm) := h.hn.grown hg (fun a ha e => by cases As with | none => cases e | some b => simp at e; exact h.hn.apart h.hs t1 a b ha rfl e)
  have x3 : Sets w3 base xs S := h.hx.grown hg (fun g q e => own_not_R h.hs t5 g q e)
  have hxA3 : ∀ a, A3 = some a → a.block ≠ x := fun a ha => by
    rcases hA3 with e | e
    · exact h.xs_ a (by rw [← e]; exact ha)
    · rw [e] at ha; injection ha with ha; subst ha; simp; omega
  refine ⟨b3, ⟨?_, h.pb, ?_, ?_, ?_, h.xp, h.xn, hxA3⟩, ?_, ?_⟩
  · have := b3.set_ 1 (.slice A3 (ns + 1) c3)
    simpa using this
  · exact n3.setCell (fun a ha => n3.off b3 t2 a ha) _
  · exact ho3.setCell (fun a ha => ho3.off b3 t3 a ha) _
  · exact (x3.setCell (blk_not_R b3 t6) _).snoc (Own.nil_ _ _ _ _)
  · refine (KX.grown hg hB (fun k hk => ?_)).trans (KX.setCell w3 h.pb (fun e => h.xp e.symm) _)
    cases As with
    | none => cases hk
    | some a => simp at hk; subst hk; exact ⟨(h.hs.lt a rfl).1, h.xs_ a rfl⟩
  · exact (KeepR.grown hg (fun g q e => own_not_R h.hs t5 g q e)).trans (KeepR.setCell (blk_not_R b3 t6) _)
/-- A set stored. -/
theorem RfX.storeSet {g k b' : Nat} {y : Option Addr × Nat × Nat} {l : List (Int × Int)} (h : RfX w base p x An nn cn (some ⟨g, 0, none⟩) ns cs xs N S) (hk : k < ns) (ho : Own w b' 80 2 y.1 y.2.1 y.2.2 (l.map encR)) (hb : base ≤ b') :
    RfX (w.setCell ⟨g, k, none⟩ (.slice y.1 y.2.1 y.2.2)) base p x An nn cn (some ⟨g, 0, none⟩) ns cs (xs.set k y) N (S.set k l) ∧ KX base x w (w.setCell ⟨g, k, none⟩ (.slice y.1 y.2.1 y.2.2)) := by
  obtain ⟨t1, t2, t3, t4, t5, t6⟩ := types_rf
  have hgp : g ≠ p := h.hs.off h.blk t3 _ rfl
  refine ⟨⟨h.blk.far (p := ⟨g, k, none⟩) (Ne.symm hgp) _, h.pb, ?_, ?_, ?_, h.xp, h.xn, h.xs_⟩, KX.setCell w (q := ⟨g, k, none⟩) (h.hs.lt _ rfl).1 (h.xs_ ⟨g, 0, none⟩ rfl) _⟩
  · exact h.hn.setCell (p := ⟨g, k, none⟩) (fun a ha e => h.hn.apart h.hs t1 a ⟨g, 0, none⟩ ha rfl e) _
  · exact h.hs.storedSl (by rw [h.lenS.1]; exact hk) y
  · refine Sets.set_ (h.hx.setCell (q := ⟨g, k, none⟩) (fun r => own_not_R h.hs t5 g r rfl) _) ?_
    exact (ho.setCell (p := ⟨g, k, none⟩) (fun a ha e => ho.apart h.hs (Ne.symm t5) a ⟨g, 0, none⟩ ha rfl e) _).more hb
end

theorem bytes_inj {a b : List UInt8} : bytesOf a = bytesOf b ↔ a = b := ⟨fun h => by rw [← bytesOf_list a, ← bytesOf_list b, h], fun h => by rw [h]⟩
/-- Behind how many names a name stands. -/
theorem idx_step {N : List (List UInt8)} {n y : List UInt8} {i : Nat} (h : n ∉ N.take i) (hy : N[i]? = some y) : (y = n → N.idxOf? n = some i) ∧ (y ≠ n → n ∉ N.take (i + 1)) := by
  constructor
  · rintro rfl
    rw [List.idxOf?, List.findIdx?_eq_some_iff_getElem]
    obtain ⟨hlt, e⟩ := List.getElem?_eq_some_iff.1 hy
    refine ⟨hlt, by simp [e], fun j hj => ?_⟩
    simp only [Bool.not_eq_true, beq_eq_false_iff_ne]
    intro hjy
    exact h (List.mem_take_iff_getElem.2 ⟨j, by omega, by simpa using hjy⟩)
  · intro hne hm
    rw [List.take_add_one, hy] at hm
    simp at hm
    rcases hm with hm | hm
    · exact h hm
    · exact hne hm.symm
theorem idx_none {N : List (List UInt8)} {n : List UInt8} (h : n ∉ N) : N.idxOf? n = none := by
  rw [List.idxOf?, List.findIdx?_eq_none_iff]
  intro x hx
  simp only [beq_eq_false_iff_ne]
  rintro rfl; exact h hx
set_option maxRecDepth 100000 in
set_option maxHeartbeats 1000000 in
theorem vClass_any (base p x : Nat) (N : List (List UInt8)) (S : List (List (Int × Int))) (n : List UInt8) (w : World) (h : RfB w base p x N S) (hN : N.length ≤ 1000000) :
    Calls Tryz.prog 64 #[.pointer (some ⟨p, 0, none⟩), .string (bytesOf n)] w fun e w' => e = .returned (.tuple #[.int .i64 (((N.idxOf? n).getD 0 : Nat) : Int), .bool (N.idxOf? n).isSome]) ∧ w = w' := by
  obtain ⟨An, nn, cn, As, ns, cs, xs, hX⟩ := h.ex
  have hl := hX.lenN
  have Hl := Lib.hid hl
  have hrd := hX.hn.rd (by omega)
  have c0 := hX.blk.cell 0
  simp only [List.getElem?_toArray, List.getElem?_cons_zero] at c0
  have hnn : nn ≤ 1000000 := by omega
  clear hl h
  go_enter Tryz.func64, Tryz.ntmps64
  go_wp2
  go_loopw [6] (fun v wr => ∃ i : Nat, v = .int .i64 i ∧ i ≤ nn ∧ Hid (n ∉ N.take i) ∧ wr = w) (fun v _ => nn - (intOf v).toNat)
  case atStart => exact ⟨0, rfl, by omega, by simp [Hid], rfl⟩
  case round =>
    obtain ⟨i, rfl, hi, HN, rfl⟩ := hrel
    by_cases hlt : i < nn
    · obtain ⟨y, Hy⟩ : ∃ y, Hid (N[i]? = some y) := ⟨_, Lib.hid (List.getElem?_eq_getElem (show i < N.length by have := Hl.out; omega))⟩
      obtain ⟨b, off, rfl, hc⟩ := hrd.atS Hy.out
      have HI := Lib.hid (idx_step HN.out Hy.out)
      by_cases hyn : y = n
      · have HE := Lib.hid (HI.out.1 hyn)
        subst hyn
        go_wp2
        go_ret2
        exact ⟨by rw [HE.out]; rfl, rfl⟩
      · have HE := Lib.hid (HI.out.2 hyn)
        have e1 : ((bytesOf y).toList == (bytesOf n).toList) = false := by rw [ByteArray.toList_eq, ByteArray.toList_eq, bytesOf_list, bytesOf_list]; exact beq_eq_false_iff_ne.2 hyn
        have e3 : decide (bytesOf y = bytesOf n) = false := decide_eq_false (fun k => hyn (bytes_inj.1 k))
        clear hyn
        go_wp2
        go_roundw
        case rel => exact ⟨i + 1, by go_num, by omega, HE, by first | rfl | trivial⟩
        case measure => simp [intOf]; omega
    · have HE := Lib.hid (idx_none (N := N) (n := n) (by have := HN.out; rwa [List.take_of_length_le (by have := Hl.out; omega)] at this))
      go_wp2
      go_ret2
      exact ⟨by rw [HE.out]; rfl, rfl⟩
end Go.Proofs.YtejccafolfeabaaGreatDoor

/-
  kerfref02.Print: the spelling of a set.
-/
namespace Go.Proofs.YtejccafolfeabaaGreatDoor
open Go.RowKit

theorem infoU8' : (Tryz.prog.info? 5).map (fun i => (i.zero, i.size, i.bytes)) = some (some (.int .u8 0), 1, 1) := by kernel_rfl
/-- Bytes that are the call's own. -/
def OwnB (w : World) (B : Nat) (v : Value) (l : List UInt8) : Prop := w.ownsRow B 5 1 v l.length (Lib.byteCells l)
theorem OwnB.below {w w' : World} {B : Nat} {v : Value} {l : List UInt8} (h : OwnB w B v l) (hb : Below w.heap.size w w') : OwnB w' B v l := by
  unfold OwnB at h ⊢
  refine ⟨h.1, ?_⟩
  rcases h.2 with h0 | ⟨g, cap, cur, hv, hg, hh, r⟩
  · exact .inl h0
  · exact .inr ⟨g, cap, cur, hv, hg, (hb.block g (Array.getElem?_eq_some_iff.1 hh).1).trans hh, r⟩
theorem OwnB.convert {w : World} {B : Nat} {v : Value} {l : List UInt8} (h : OwnB w B v l) : (convert 66 9 v).run Tryz.prog w = .ok (.string ⟨l.toArray⟩) w := by
  unfold OwnB at h
  rcases h.2 with ⟨rfl, h0⟩ | ⟨g, cap, cur, rfl, _, hg, _, _, _, ht⟩
  · have : l = [] := List.length_eq_zero_iff.1 h0
    subst this
    exact Lib.run_convert_nil_bytes w 66 9 5 0 Tryz.underlying66 Tryz.underlying5 Tryz.underlying9
  · exact run_convert_bytes_back w 66 9 5 ⟨g, 0, none⟩ cap l Tryz.underlying66 Tryz.underlying5 Tryz.underlying9 (Lib.bytes_of_row hg (by simpa using ht))
theorem OwnB.lt {w : World} {B : Nat} {v : Value} {l : List UInt8} (h : OwnB w B v l) : ∀ k, v.ownBlock = some k → B ≤ k := fun k hk => (World.ownsRow.lt h k hk).1
theorem OwnB.str {w : World} {B : Nat} {v : Value} {l : List UInt8} {s : ByteArray} {n : Nat} (h : w.ownsRow B 5 1 v (n + s.size) (Lib.byteCells l ++ Lib.strCells s)) (hn : n = l.length) : OwnB w B v (l ++ s.data.toList) := by
  unfold OwnB
  subst hn
  have e1 : Lib.byteCells (l ++ s.data.toList) = Lib.byteCells l ++ Lib.strCells s := by simp [Lib.byteCells, Lib.strCells]
  rw [e1, List.length_append, Array.length_toList]
  exact h
theorem OwnB.byte {w : World} {B : Nat} {v : Value} {l : List UInt8} {c : UInt8} {n : Nat} (h : w.ownsRow B 5 1 v (n + 1) (Lib.byteCells l ++ [.int .u8 c.toNat])) (hn : n = l.length) : OwnB w B v (l ++ [c]) := by
  unfold OwnB
  subst hn
  have e1 : Lib.byteCells (l ++ [c]) = Lib.byteCells l ++ [.int .u8 c.toNat] := by simp [Lib.byteCells]
  rw [e1, List.length_append]
  exact h
theorem OwnB.form {w : World} {B : Nat} {v : Value} {l : List UInt8} (h : OwnB w B v l) : ∃ A n c, v = .slice A n c := by
  unfold OwnB at h
  rcases h.2 with ⟨rfl, _⟩ | ⟨g, cap, cur, rfl, _⟩
  · exact ⟨_, _, _, rfl⟩
  · exact ⟨_, _, _, rfl⟩
theorem cell_grown {w w' : World} {o : Obj} {B b i : Nat} {v u : Value} {l : List UInt8} (hu : w.cell? ⟨b, i, none⟩ = some u) (ho : OwnB (w.alloc o) B v l) (hg : (w.alloc o).grownBy w' v.ownBlock) (hb : b < B) : w'.cell? ⟨b, i, none⟩ = some u := by
  have h1 : (w.alloc o).cell? ⟨b, i, none⟩ = some u := cell_keep hu ((Below.refl _ _).alloc (Nat.le_refl _) o)
  exact (World.cell?_of_block (hg.block b (cell_lt h1) (fun e => by have := ho.lt b e.symm; omega))).trans h1
theorem cell_grownS {w w' : World} {B b i : Nat} {v u : Value} {l : List UInt8} (hu : w.cell? ⟨b, i, none⟩ = some u) (ho : OwnB w B v l) (hg : w.grownBy w' v.ownBlock) (hb : b < B) : w'.cell? ⟨b, i, none⟩ = some u :=
  (World.cell?_of_block (hg.block b (cell_lt hu) (fun e => by have := ho.lt b e.symm; omega))).trans hu
theorem below_ownB {B : Nat} {a w w' : World} {v : Value} {l : List UInt8} (h : Below B a w) (ho : OwnB w B v l) (hg : w.grownBy w' v.ownBlock) (hB : B ≤ w.heap.size) : Below B a w' := h.grown hg hB fun k hk => ho.lt k hk
theorem cell_newB (w : World) {t : TypeId} (x : Value) : ∀ j u, [x][j]? = some u → (w.alloc (.cells #[x] t)).cell? ((⟨w.heap.size, 0, none⟩ : Addr).add j) = some u := fun j u h => by
  match j, h with
  | 0, h =>
    obtain rfl : x = u := by simpa using h
    exact (Blk.new w t #[x]).cell 0

set_option maxRecDepth 100000 in
set_option maxHeartbeats 2000000 in
theorem sPrint_any (A : Option Addr) (n c : Nat) (l : List (Int × Int)) (w : World) (hA : Rd w 2 A (l.map encR)) (hl : l.length = n) (hn : n ≤ 4000000) :
    Calls Tryz.prog 84 #[.slice A n c] w fun e w' => e = .returned (.string ⟨(printP l).toArray⟩) ∧ Below w.heap.size w w' := by
  obtain ⟨i0, hi0, hz0, hz1, hz2⟩ := info_parts infoU8'
  have Hl := Lib.hid hl
  have HNF := Lib.hid (normR_NF l)
  clear hl
  go_enter Tryz.func84, Tryz.ntmps84
  go_wp2_with fail
  refine (sNorm_any A n c l _ hA Hl.out hn).mono ?_
  rintro e w1 ⟨A1, n1, c1, rfl, ho1, hb1⟩
  have Hl1 := Lib.hid (show (normR l).length = n1 by simpa using ho1.len)
  have hn1 : n1 ≤ 557056 := by have := HNF.out.len; have := Hl1.out; omega
  have hA1 := ho1.rd (by decide)
  clear ho1
  go_wp2_with fail
  go_loopw [4, 5] (fun v4 v5 wr => ∃ (k : Nat) (A2 : Option Addr) (n2 c2 : Nat), v4 = .slice A2 n2 c2 ∧ v5 = .int .i64 k ∧ k ≤ n1 ∧ OwnB wr w1.heap.size (.slice A2 n2 c2) (printL ((normR l).take k)) ∧ Below w1.heap.size w1 wr) (fun _ v5 _ => n1 - (intOf v5).toNat)
  case atStart => exact ⟨0, none, 0, 0, rfl, rfl, by omega, ⟨rfl, .inl ⟨rfl, rfl⟩⟩, Below.refl _ _⟩
  case round =>
    obtain ⟨k, A2, n2, c2, rfl, rfl, hk, ho, hb⟩ := hrel
    have hplen := printL_len ((normR l).take k)
    have hl2 : (printL ((normR l).take k)).length ≤ 20000000 := by rw [List.length_take] at hplen; have := Hl1.out; omega
    have hsz := hb.size
    clear hplen
    by_cases hlt : k < n1
    · obtain ⟨bb, off, lo, hi, rfl, Hx, d0, d1⟩ := hA1.atR (k := k) (by have := Hl1.out; omega)
      have hbb : bb < w1.heap.size := cell_lt d0
      replace d0 := cell_keep d0 hb
      replace d1 := cell_keep d1 hb
      have hxb := HNF.out.2 _ (List.mem_of_getElem? Hx.out)
      have hxl := Nf_le HNF.out.1 _ (List.mem_of_getElem? Hx.out)
      simp only at hxb hxl
      obtain ⟨a, rfl⟩ : ∃ a : Nat, lo = (a : Int) := ⟨lo.toNat, by omega⟩
      obtain ⟨b, rfl⟩ : ∃ b : Nat, hi = (b : Int) := ⟨hi.toNat, by omega⟩
      have ha : a ≤ 1114111 := by omega
      have hb9 : b ≤ 1114111 := by omega
      obtain ⟨Xa, hXa⟩ : ∃ X : ByteArray, (⟨(hexS a).toArray⟩ : ByteArray) = X := ⟨_, rfl⟩
      obtain ⟨Xb, hXb⟩ : ∃ X : ByteArray, (⟨(hexS b).toArray⟩ : ByteArray) = X := ⟨_, rfl⟩
      have hza : Xa.size ≤ 6 := by rw [← hXa, ← size_data]; simp [hexS_len]; exact (hexK_bd a).2
      have hzb : Xb.size ≤ 6 := by rw [← hXb, ← size_data]; simp [hexS_len]; exact (hexK_bd b).2
      have Ha1 := Lib.hid (show ((⟨#[85, 43]⟩ : ByteArray) ++ Xa).data.toList = spellP (a : Int) by rw [← hXa]; simp [spellP])
      have Hb1 := Lib.hid (show ((⟨#[45, 85, 43]⟩ : ByteArray) ++ Xb).data.toList = 45 :: spellP (b : Int) by rw [← hXb]; simp [spellP])
      have hsa : ((⟨#[85, 43]⟩ : ByteArray) ++ Xa).size ≤ 8 := by rw [ByteArray.size_append]; show 2 + _ ≤ _; omega
      have hsb : ((⟨#[45, 85, 43]⟩ : ByteArray) ++ Xb).size ≤ 9 := by rw [ByteArray.size_append]; show 3 + _ ≤ _; omega
      have HXa := Lib.hid hXa
      have HXb := Lib.hid hXb
      have HT := Lib.hid (show printL ((normR l).take (k + 1)) = printL ((normR l).take k) ++ (if (normR l).take k = [] then [] else [32]) ++ itemT ((a : Int), (b : Int)) by
        rw [List.take_add_one, Hx.out, Option.toList_some, printL_snoc])
      clear hXa hXb
      by_cases he : b = a
      · subst he
        have Hit := Lib.hid (show itemT ((b : Int), (b : Int)) = spellP (b : Int) by unfold itemT; rw [if_pos rfl, List.append_nil])
        by_cases hk0 : k = 0
        · skip
          obtain rfl : k = 0 := hk0
          have HT2 : Hid (printL ((normR l).take (0 + 1)) = printL ((normR l).take 0) ++ [] ++ itemT ((b : Int), (b : Int))) := Lib.hid (by have h := HT.out; rw [if_pos List.take_zero] at h; exact h)
          simp only [Nat.zero_mul, Nat.add_zero] at d0 d1
          clear HT
          go_wp2_with fail
          have ho' : OwnB wr w1.heap.size (.slice A2 n2 c2) (printL ((normR l).take 0) ++ []) := by rw [List.append_nil]; exact ho
          clear ho
          have hl3 : (printL ((normR l).take 0) ++ []).length ≤ 20000001 := by rw [List.append_nil]; omega
          refine (sHex_any b wr (by omega)).mono ?_
          rintro e w9 ⟨rfl, rfl⟩
          rw [HXa.out]
          go_wp2_with (at_builtin; go_must (refine Lib.wpList_append_own_string _ rfl (.tmp 19) (.tmp 26) 66 9 rfl w1.heap.size 5 i0 Tryz.underlying66 Tryz.underlying9 hi0 hz0 hz1 hz2 _ _ _ rfl ho' (⟨#[85, 43]⟩ ++ Xa) rfl (by unfold maxLen; omega) (by omega) (by omega) ?_); intro v3 w3 ho3 hg3 _; have ho4 := OwnB.str ho3 rfl; have hb4 := below_ownB hb ho' hg3 (by omega); have f0 := cell_grownS d0 ho' hg3 hbb; have f1 := cell_grownS d1 ho' hg3 hbb; obtain ⟨A5, n5, c5, rfl⟩ := ho4.form; clear ho3 hg3)
          rw [Ha1.out] at ho4
          clear d0 d1 ho' hb
          go_quiet (fail)
          go_wp2
          have ho6 : OwnB _ w1.heap.size (.slice A5 n5 c5) (printL ((normR l).take (0 + 1))) := cast (by rw [HT2.out, Hit.out]) ho4
          go_roundw
          case rel => exact ⟨0 + 1, A5, n5, c5, rfl, by go_num, by omega, ho6, below_drewN hb4 _⟩
          case measure => simp [intOf]; omega
        · skip
          have htk : ¬ (normR l).take k = [] := by
            intro e
            have h9 : ((normR l).take k).length = 0 := by rw [e]; rfl
            rw [List.length_take] at h9; have := Hl1.out; omega
          have HT2 := Lib.hid HT.out
          rw [if_neg htk] at HT2
          have hk0' : 0 < k := by omega
          clear HT htk
          have hoA : OwnB (wr.alloc (.cells #[.int .u8 32] 5)) w1.heap.size (.slice A2 n2 c2) (printL ((normR l).take k)) := ho.below ((Below.refl _ _).alloc (Nat.le_refl _) _)
          go_wp2_with (at_builtin; go_must (refine wpList_append_own _ rfl (.tmp 16) (.tmp 17) 66 rfl w1.heap.size 5 i0 _ 1 1 Tryz.underlying66 hi0 hz0 hz1 hz2 rfl (by decide) _ _ _ rfl hoA ⟨wr.heap.size, 0, none⟩ 1 1 [.int .u8 (32 : UInt8).toNat] rfl rfl (cell_newB wr _) (by simp [Value.oneCell']) (by unfold maxLen; omega) (by omega) (by simp; omega) ?_); intro v2 w2 ho2 hg2 _; have ho' := OwnB.byte ho2 rfl; have hb' := below_ownB (hb.alloc (by omega) _) hoA hg2 (by simp; omega); have e0 := cell_grown d0 hoA hg2 hbb; have e1 := cell_grown d1 hoA hg2 hbb; obtain ⟨A4, n4, c4, rfl⟩ := ho'.form; clear ho2 hg2)
          have hl3 : (printL ((normR l).take k) ++ [32]).length ≤ 20000001 := by rw [List.length_append]; simp; omega
          have hs2 := hb'.size
          clear d0 d1 hoA ho hb
          refine (sHex_any b w2 (by omega)).mono ?_
          rintro e w9 ⟨rfl, rfl⟩
          rw [HXa.out]
          go_wp2_with (at_builtin; go_must (refine Lib.wpList_append_own_string _ rfl (.tmp 19) (.tmp 26) 66 9 rfl w1.heap.size 5 i0 Tryz.underlying66 Tryz.underlying9 hi0 hz0 hz1 hz2 _ _ _ rfl ho' (⟨#[85, 43]⟩ ++ Xa) rfl (by unfold maxLen; omega) (by omega) (by omega) ?_); intro v3 w3 ho3 hg3 _; have ho4 := OwnB.str ho3 rfl; have hb4 := below_ownB hb' ho' hg3 (by omega); have f0 := cell_grownS e0 ho' hg3 hbb; have f1 := cell_grownS e1 ho' hg3 hbb; obtain ⟨A5, n5, c5, rfl⟩ := ho4.form; clear ho3 hg3)
          rw [Ha1.out] at ho4
          clear e0 e1 ho' hb'
          go_quiet (fail)
          go_wp2
          have ho6 : OwnB _ w1.heap.size (.slice A5 n5 c5) (printL ((normR l).take (k + 1))) := cast (by rw [HT2.out, Hit.out]) ho4
          go_roundw
          case rel => exact ⟨k + 1, A5, n5, c5, rfl, by go_num, by omega, ho6, below_drewN hb4 _⟩
          case measure => simp [intOf]; omega
      · have Hit := Lib.hid (show itemT ((a : Int), (b : Int)) = spellP (a : Int) ++ 45 :: spellP (b : Int) by unfold itemT; rw [if_neg (fun e => he (by simp only at e; omega))])
        have hab : ((b : Int) != (a : Int)) = true := by rw [bne_iff_ne]; omega
        clear he
        by_cases hk0 : k = 0
        · skip
          obtain rfl : k = 0 := hk0
          have HT2 : Hid (printL ((normR l).take (0 + 1)) = printL ((normR l).take 0) ++ [] ++ itemT ((a : Int), (b : Int))) := Lib.hid (by have h := HT.out; rw [if_pos List.take_zero] at h; exact h)
          simp only [Nat.zero_mul, Nat.add_zero] at d0 d1
          clear HT
          go_wp2_with fail
          have ho' : OwnB wr w1.heap.size (.slice A2 n2 c2) (printL ((normR l).take 0) ++ []) := by rw [List.append_nil]; exact ho
          clear ho
          have hl3 : (printL ((normR l).take 0) ++ []).length ≤ 20000001 := by rw [List.append_nil]; omega
          refine (sHex_any a wr (by omega)).mono ?_
          rintro e w9 ⟨rfl, rfl⟩
          rw [HXa.out]
          go_wp2_with (at_builtin; go_must (refine Lib.wpList_append_own_string _ rfl (.tmp 19) (.tmp 26) 66 9 rfl w1.heap.size 5 i0 Tryz.underlying66 Tryz.underlying9 hi0 hz0 hz1 hz2 _ _ _ rfl ho' (⟨#[85, 43]⟩ ++ Xa) rfl (by unfold maxLen; omega) (by omega) (by omega) ?_); intro v3 w3 ho3 hg3 _; have ho4 := OwnB.str ho3 rfl; have hb4 := below_ownB hb ho' hg3 (by omega); have f0 := cell_grownS d0 ho' hg3 hbb; have f1 := cell_grownS d1 ho' hg3 hbb; obtain ⟨A5, n5, c5, rfl⟩ := ho4.form; clear ho3 hg3)
          rw [Ha1.out] at ho4
          clear d0 d1 ho' hb
          go_quiet (fail)
          have hl5 : (printL ((normR l).take 0) ++ [] ++ spellP (a : Int)).length ≤ 20000010 := by have := spellP_len (a : Int); rw [List.length_append]; omega
          have hs5 := hb4.size
          go_wp2_with fail
          refine (sHex_any b _ hb9).mono ?_
          rintro e w9 ⟨rfl, rfl⟩
          rw [HXb.out]
          go_wp2_with (at_builtin; go_must (refine Lib.wpList_append_own_string _ rfl (.tmp 39) (.tmp 46) 66 9 rfl w1.heap.size 5 i0 Tryz.underlying66 Tryz.underlying9 hi0 hz0 hz1 hz2 _ _ _ rfl ho4 (⟨#[45, 85, 43]⟩ ++ Xb) rfl (by unfold maxLen; omega) (by omega) hs5 ?_); intro v6 w6 ho6 hg6 _; have ho7 := OwnB.str ho6 rfl; have hb7 := below_ownB (below_drewN hb4 _) ho4 hg6 hs5; obtain ⟨A7, n7, c7, rfl⟩ := ho7.form; clear ho6 hg6)
          rw [Hb1.out] at ho7
          have ho8 : OwnB w6 w1.heap.size (.slice A7 n7 c7) (printL ((normR l).take (0 + 1))) := cast (by simp only [HT2.out, Hit.out, List.append_assoc]) ho7
          go_roundw
          case rel => exact ⟨0 + 1, A7, n7, c7, rfl, by go_num, by omega, ho8, hb7⟩
          case measure => simp [intOf]; omega
        · skip
          have htk : ¬ (normR l).take k = [] := by
            intro e
            have h9 : ((normR l).take k).length = 0 := by rw [e]; rfl
            rw [List.length_take] at h9; have := Hl1.out; omega
          have HT2 := Lib.hid HT.out
          rw [if_neg htk] at HT2
          have hk0' : 0 < k := by omega
          clear HT htk
          have hoA : OwnB (wr.alloc (.cells #[.int .u8 32] 5)) w1.heap.size (.slice A2 n2 c2) (printL ((normR l).take k)) := ho.below ((Below.refl _ _).alloc (Nat.le_refl _) _)
          go_wp2_with (at_builtin; go_must (refine wpList_append_own _ rfl (.tmp 16) (.tmp 17) 66 rfl w1.heap.size 5 i0 _ 1 1 Tryz.underlying66 hi0 hz0 hz1 hz2 rfl (by decide) _ _ _ rfl hoA ⟨wr.heap.size, 0, none⟩ 1 1 [.int .u8 (32 : UInt8).toNat] rfl rfl (cell_newB wr _) (by simp [Value.oneCell']) (by unfold maxLen; omega) (by omega) (by simp; omega) ?_); intro v2 w2 ho2 hg2 _; have ho' := OwnB.byte ho2 rfl; have hb' := below_ownB (hb.alloc (by omega) _) hoA hg2 (by simp; omega); have e0 := cell_grown d0 hoA hg2 hbb; have e1 := cell_grown d1 hoA hg2 hbb; obtain ⟨A4, n4, c4, rfl⟩ := ho'.form; clear ho2 hg2)
          have hl3 : (printL ((normR l).take k) ++ [32]).length ≤ 20000001 := by rw [List.length_append]; simp; omega
          have hs2 := hb'.size
          clear d0 d1 hoA ho hb
          refine (sHex_any a w2 (by omega)).mono ?_
          rintro e w9 ⟨rfl, rfl⟩
          rw [HXa.out]
          go_wp2_with (at_builtin; go_must (refine Lib.wpList_append_own_string _ rfl (.tmp 19) (.tmp 26) 66 9 rfl w1.heap.size 5 i0 Tryz.underlying66 Tryz.underlying9 hi0 hz0 hz1 hz2 _ _ _ rfl ho' (⟨#[85, 43]⟩ ++ Xa) rfl (by unfold maxLen; omega) (by omega) (by omega) ?_); intro v3 w3 ho3 hg3 _; have ho4 := OwnB.str ho3 rfl; have hb4 := below_ownB hb' ho' hg3 (by omega); have f0 := cell_grownS e0 ho' hg3 hbb; have f1 := cell_grownS e1 ho' hg3 hbb; obtain ⟨A5, n5, c5, rfl⟩ := ho4.form; clear ho3 hg3)
          rw [Ha1.out] at ho4
          clear e0 e1 ho' hb'
          go_quiet (fail)
          have hl5 : (printL ((normR l).take k) ++ [32] ++ spellP (a : Int)).length ≤ 20000010 := by have := spellP_len (a : Int); rw [List.length_append]; omega
          have hs5 := hb4.size
          go_wp2_with fail
          refine (sHex_any b _ hb9).mono ?_
          rintro e w9 ⟨rfl, rfl⟩
          rw [HXb.out]
          go_wp2_with (at_builtin; go_must (refine Lib.wpList_append_own_string _ rfl (.tmp 39) (.tmp 46) 66 9 rfl w1.heap.size 5 i0 Tryz.underlying66 Tryz.underlying9 hi0 hz0 hz1 hz2 _ _ _ rfl ho4 (⟨#[45, 85, 43]⟩ ++ Xb) rfl (by unfold maxLen; omega) (by omega) hs5 ?_); intro v6 w6 ho6 hg6 _; have ho7 := OwnB.str ho6 rfl; have hb7 := below_ownB (below_drewN hb4 _) ho4 hg6 hs5; obtain ⟨A7, n7, c7, rfl⟩ := ho7.form; clear ho6 hg6)
          rw [Hb1.out] at ho7
          have ho8 : OwnB w6 w1.heap.size (.slice A7 n7 c7) (printL ((normR l).take (k + 1))) := cast (by simp only [HT2.out, Hit.out, List.append_assoc]) ho7
          go_roundw
          case rel => exact ⟨k + 1, A7, n7, c7, rfl, by go_num, by omega, ho8, hb7⟩
          case measure => simp [intOf]; omega
    · obtain rfl : n1 = k := by omega
      have HE := Lib.hid (show (normR l).take n1 = normR l from List.take_of_length_le (by have := Hl1.out; omega))
      rw [HE.out] at ho
      have hcv := ho.convert
      go_wp2
      go_ret
      exact ⟨rfl, below_two hb1 hb⟩
end Go.Proofs.YtejccafolfeabaaGreatDoor

/-
  kerflaw04.PropsBack, walked.
-/
namespace Go.Proofs.YtejccafolfeabaaGreatDoor
open Go.RowKit Go.Maps

theorem setI_at {d : DbP} {i : Nat} {s : List (Int × Int)} (h : d.full[i]? = some s) : d.setI (i : Int) = s := by
  unfold DbP.setI
  rw [if_pos (by omega), List.getD_eq_getElem?_getD, show ((i : Int).toNat) = i by omega, h]; rfl
set_option maxRecDepth 100000 in
set_option maxHeartbeats 4000000 in
theorem qPropsBack_any (s : ByteArray) (w : World) (hE : Env w) (hs : s.size ≤ maxLen) : Calls Tryz.prog 6 #[.string s] w fun e w' => e = .returned (.bool true) ∧ Below w.heap.size w w' := by
  obtain ⟨t, rfl⟩ : ∃ t, s = bytesOf t := ⟨_, (bytesOf_data s).symm⟩
  rw [bytesOf_size] at hs
  have hsz : (bytesOf t).size = t.length := bytesOf_size t
  by_cases hbig : 12000 < t.length
  · go_enter Tryz.func6, Tryz.ntmps6
    go_wp2_with fail
    refine (qlive_any w hE).mono ?_
    rintro e w1 ⟨rfl, hb1⟩
    go_wp2
    go_ret
    exact ⟨rfl, hb1⟩
  · have HN := Lib.hid (wNew_any t w hE hs)
    cases hr : newP t with
    | error x =>
      rw [hr] at HN
      have hx := newP_code hr
      have hne : ((x.1 : Int) != 0) = true := by rw [bne_iff_ne]; omega
      clear hr
      go_enter Tryz.func6, Tryz.ntmps6
      go_wp2_with fail
      refine HN.out.mono ?_
      rintro e w1 ⟨he, hb1⟩
      have he : e = .returned (.tuple #[.pointer none, .int .i64 x.1, .int .i64 (x.2 : Int)]) := he
      subst he
      go_wp2_with (go_at_call 15; refine (qnum_any _ _).mono ?_; rintro e w' ⟨rfl, rfl⟩)
      refine (qlive_any w1 (hE.below hb1)).mono ?_
      rintro e w2 ⟨rfl, hb2⟩
      go_wp2
      go_ret
      exact ⟨rfl, below_two hb1 hb2⟩
    | ok d =>
      rw [hr] at HN
      obtain ⟨hok, hap⟩ := newP_ok hr
      have HO := Lib.hid (And.intro hok (And.intro hap (newP_named hr)))
      have HB := Lib.hid (newP_back hr (by omega))
      have hdl := newP_text hr (by omega)
      have HN2 := Lib.hid (fun W (h : Env W) => wNew_any d.text W h (by unfold maxLen; omega))
      rw [HB.out] at HN2
      obtain ⟨nn, Hnn⟩ : ∃ nn, Hid (d.names.length = nn) := ⟨_, rfl⟩
      have hn64 : nn ≤ 64 := by rw [← Hnn.out]; exact hok.few
      have HFl : Hid (d.full.length = nn) := Lib.hid (by rw [← Hnn.out]; exact full_len hok)
      clear hr hok hap hdl
      go_enter Tryz.func6, Tryz.ntmps6
      go_wp2_with fail
      refine HN.out.mono ?_
      rintro e w1 ⟨⟨p, rfl, hd⟩, hb⟩
      have hE1 := hE.below hb
      go_wp2_with (go_at_call 15; refine (qnum_any _ _).mono ?_; rintro e w' ⟨rfl, rfl⟩)
      refine (wText_any p d w1 hd HO.out.1 HO.out.2.1 HO.out.2.2 hE1.tabB).mono ?_
      rintro e w2 ⟨rfl, hb2⟩
      replace hb := below_two hb hb2
      replace hd := hd.below hb2
      replace hE1 := hE1.below hb2
      clear hb2
      go_wp2_with fail
      refine (HN2.out w2 hE1).mono ?_
      rintro e w3 ⟨⟨p2, rfl, hd2⟩, hb2⟩
      replace hb := below_two hb hb2
      replace hd := hd.below hb2
      replace hE1 := hE1.below hb2
      clear hb2
      go_wp2_with (go_at_call 15; refine (qnum_any _ _).mono ?_; rintro e w' ⟨rfl, rfl⟩)
      refine (wNames_any p2 d w3 hd2 HO.out.1).mono ?_
      rintro e w4 ⟨A4, n4, c4, rfl, ho4, hb2⟩
      obtain rfl : nn = n4 := by have := ho4.len; rw [List.length_map, Hnn.out] at this; exact this
      replace hb := below_two hb hb2
      replace hd := hd.below hb2
      replace hd2 := hd2.below hb2
      replace hE1 := hE1.below hb2
      clear hb2
      go_wp2_with fail
      refine (wNames_any p d w4 hd HO.out.1).mono ?_
      rintro e w5 ⟨A5, n5, c5, rfl, ho5, hb2⟩
      obtain rfl : nn = n5 := by have := ho5.len; rw [List.length_map, Hnn.out] at this; exact this
      replace hb := below_two hb hb2
      replace hd := hd.below hb2
      replace hd2 := hd2.below hb2
      replace hE1 := hE1.below hb2
      have hA4 := (ho4.below hb2).rd (by omega)
      have hA5 := ho5.rd (by omega)
      clear hb2
      go_wp2_with fail
      refine (qtexts_any A4 A5 nn c4 c5 d.names w5 hA4 hA5 Hnn.out (by omega)).mono ?_
      rintro e w6 ⟨rfl, k6, rfl⟩
      have hb2 : Below w5.heap.size w5 (w5.drewN k6) := below_refl_drewN w5 k6
      replace hb := below_two hb hb2
      replace hd := hd.below hb2
      replace hd2 := hd2.below hb2
      replace hE1 := hE1.below hb2
      clear hb2 hA4 hA5 ho4 ho5
      generalize w5.drewN k6 = w6 at hb hd hd2 hE1 ⊢
      go_wp2_with fail
      refine (wText_any p2 d w6 hd2 HO.out.1 HO.out.2.1 HO.out.2.2 hE1.tabB).mono ?_
      rintro e w7 ⟨rfl, hb2⟩
      replace hb := below_two hb hb2
      replace hd := hd.below hb2
      replace hd2 := hd2.below hb2
      replace hE1 := hE1.below hb2
      clear hb2
      go_wp2_with fail
      refine (wText_any p d w7 hd HO.out.1 HO.out.2.1 HO.out.2.2 hE1.tabB).mono ?_
      rintro e w8 ⟨rfl, hb2⟩
      replace hb := below_two hb hb2
      replace hd := hd.below hb2
      replace hd2 := hd2.below hb2
      replace hE1 := hE1.below hb2
      clear hb2
      go_wp2_with fail
      go_loopw [9] (fun v wr => ∃ i : Nat, v = .int .i64 i ∧ i ≤ nn ∧ Below w8.heap.size w8 wr) (fun v _ => nn - (intOf v).toNat)
      case atStart => exact ⟨0, rfl, by omega, Below.refl _ _⟩
      case round =>
        obtain ⟨i, rfl, hi, hbr⟩ := hrel
        have hdr := hd.below hbr
        have hdr2 := hd2.below hbr
        by_cases hlt : i < nn
        · obtain ⟨s, Hs⟩ : ∃ s, Hid (d.full[i]? = some s) := ⟨_, Lib.hid (List.getElem?_eq_getElem (show i < d.full.length by have := HFl.out; omega))⟩
          have HS := Lib.hid (setI_at Hs.out)
          go_wp2_with fail
          refine (wNames_any p d wr hdr HO.out.1).mono ?_
          rintro e w9 ⟨A9, n9, c9, rfl, ho9, hb9⟩
          obtain rfl : nn = n9 := by have := ho9.len; rw [List.length_map, Hnn.out] at this; exact this
          clear ho9
          go_wp2_with fail
          refine (wSet_any p2 d i w9 (hdr2.below hb9) HO.out.1 HO.out.2.1).mono ?_
          rw [HS.out]
          rintro e wa ⟨Aa, na, ca, rfl, hoa, hba⟩
          go_wp2_with fail
          refine (wSet_any p d i wa ((hdr.below hb9).below hba) HO.out.1 HO.out.2.1).mono ?_
          rw [HS.out]
          rintro e wb ⟨Ab, nb, cb, rfl, hob, hbb⟩
          have hna : s.length = na := by simpa using hoa.len
          have hnb : s.length = nb := by simpa using hob.len
          have hsm := full_small HO.out.1 HO.out.2.1 Hs.out
          go_wp2_with fail
          refine (sSame_any Aa Ab na ca nb cb s s wb ((hoa.below hbb).rd (by omega)) (hob.rd (by omega)) hna hnb (by unfold maxLen; omega) (by unfold maxLen; omega)).mono ?_
          rw [decide_eq_true rfl]
          rintro e wc ⟨rfl, kc, rfl⟩
          go_wp2
          go_roundw
          case rel => exact ⟨i + 1, by go_num, by omega, below_drewN (below_two hbr (below_two hb9 (below_two hba hbb))) kc⟩
          case measure => simp [intOf]; omega
        · go_wp2_with fail
          refine (wNames_any p d wr hdr HO.out.1).mono ?_
          rintro e w9 ⟨A9, n9, c9, rfl, ho9, hb9⟩
          obtain rfl : nn = n9 := by have := ho9.len; rw [List.length_map, Hnn.out] at this; exact this
          clear ho9
          go_wp2_with fail
          refine (qlive_any w9 ((hE1.below hbr).below hb9)).mono ?_
          rintro e wa ⟨rfl, hba⟩
          go_wp2
          go_ret
          exact ⟨rfl, below_two (below_two hb hbr) (below_two hb9 hba)⟩
end Go.Proofs.YtejccafolfeabaaGreatDoor

/-
  kerfref04: Get, Set, Text, walked.
-/
namespace Go.Proofs.YtejccafolfeabaaGreatDoor
open Go.RowKit Go.Maps

theorem getGo_hit {q : Int} {i : Nat} {s : List (Int × Int)} {S : List (List (Int × Int))} (h : hasB s q = true) : getGo q i (s :: S) = i := by unfold getGo; rw [if_pos h]
theorem getGo_miss {q : Int} {i : Nat} {s : List (Int × Int)} {S : List (List (Int × Int))} (h : hasB s q = false) : getGo q i (s :: S) = getGo q (i + 1) S := by conv => lhs; unfold getGo; rw [if_neg (by rw [h]; simp)]
theorem getGo_end {q : Int} {i : Nat} : getGo q i [] = 0 := rfl
set_option maxRecDepth 100000 in
set_option maxHeartbeats 4000000 in
theorem vGet_any (base p x : Nat) (d : DbP) (r : Int) (w : World) (h : RfB w base p x d.names d.full) (ho : d.Ok) (hap : Apart d.sets) :
    Calls Tryz.prog 46 #[.pointer (some ⟨p, 0, none⟩), .int .i32 r] w fun e w' => e = .returned (.int .i64 (d.get r : Nat)) ∧ w = w' := by
  obtain ⟨An, nn, cn, As, ns, cs, xs, hX⟩ := h.ex
  have hls := hX.lenS
  have hfl := full_len ho
  have hn0 : 0 < ns := by
    have h3 := ho.head
    cases hd : d.names with
    | nil => rw [hd] at h3; cases h3
    | cons a b => rw [hd] at hfl; simp at hfl; omega
  have hn64 : ns ≤ 64 := by have := ho.few; omega
  obtain ⟨g, rfl, _, _⟩ := hX.hs.form hn0
  have c1 := hX.blk.cell 1
  simp only [List.getElem?_toArray, List.getElem?_cons_zero, List.getElem?_cons_succ] at c1
  have HF := Lib.hid (fun i s (hi : d.full[i]? = some s) => full_small ho hap hi)
  have HG : Hid (d.get r = getGo (askR r) 1 d.full.tail) := rfl
  have Hls := Lib.hid (show d.full.length = ns from hls.2)
  have hcase : (r < 0 ∧ askR r = 65533) ∨ (¬ r < 0 ∧ 1114111 < r ∧ askR r = 65533) ∨ (¬ r < 0 ∧ ¬ 1114111 < r ∧ askR r = r) := by
    unfold askR; split <;> omega
  obtain ⟨q, hq⟩ : ∃ q, askR r = q := ⟨_, rfl⟩
  rw [hq] at HG hcase
  clear ho hap h hfl hq
  rcases hcase with ⟨h1, rfl⟩ | ⟨h1, h2, rfl⟩ | ⟨h1, h2, rfl⟩
  · go_enter Tryz.func46, Tryz.ntmps46
    go_wp2_with fail
    go_loopw [5] (fun v wr => ∃ k : Nat, v = .int .i64 (k + 1 : Nat) ∧ k + 1 ≤ ns ∧ wr = w ∧ Hid (d.get r = getGo 65533 (k + 1) (d.full.tail.drop k))) (fun v _ => ns - (intOf v).toNat)
    case atStart => exact ⟨0, rfl, by omega, rfl, by rw [List.drop_zero]; exact HG⟩
    case round =>
      obtain ⟨k, rfl, hk, rfl, HK⟩ := hrel
      by_cases hlt : k + 1 < ns
      · obtain ⟨s, Hs⟩ : ∃ s, Hid (d.full[k + 1]? = some s) := ⟨_, Lib.hid (List.getElem?_eq_getElem (show k + 1 < d.full.length by have := Hls.out; omega))⟩
        obtain ⟨⟨yA, yn, yc⟩, Hy⟩ : ∃ y, Hid (xs[k + 1]? = some y) := ⟨_, Lib.hid (List.getElem?_eq_getElem (show k + 1 < xs.length by omega))⟩
        have hoy : Own wr base 80 2 yA yn yc (s.map encR) := hX.hx.own (k + 1) (yA, yn, yc) s Hy.out Hs.out
        have hly : s.length = yn := by simpa using hoy.len
        have hsm := HF.out _ s Hs.out
        have hcell := hX.hs.cell' rfl Hy.out
        have HH := Lib.hid (sHas_any yA yn yc s 65533 wr (hoy.rd (by omega)) hly (by omega))
        have HD := Lib.hid (drop_at (show d.full.tail[k]? = some s by rw [List.getElem?_tail]; exact Hs.out))
        have hI : (k : Int) + 1 < ns := by omega
        rw [HD.out] at HK
        cases hv : hasB s 65533 with
        | true =>
          have HE := Lib.hid (HK.out.trans (getGo_hit hv))
          rw [hv] at HH
          clear hv hly
          go_wp2_with (go_at_call 21; refine HH.out.mono ?_; rintro e w2 ⟨rfl, rfl⟩)
          go_ret
          exact ⟨by rw [HE.out]; rfl, rfl⟩
        | false =>
          have HE := Lib.hid (HK.out.trans (getGo_miss hv))
          rw [hv] at HH
          clear hv hly
          go_wp2_with (go_at_call 21; refine HH.out.mono ?_; rintro e w2 ⟨rfl, rfl⟩)
          go_roundw
          case rel => exact ⟨k + 1, by go_num, by omega, by first | rfl | trivial, HE⟩
          case measure => simp [intOf]; omega
      · have HE : Hid (d.get r = 0) := Lib.hid (by rw [HK.out, List.drop_of_length_le (by rw [List.length_tail]; have := Hls.out; omega)]; rfl)
        obtain rfl : k + 1 = ns := by omega
        go_wp2
        go_ret
        exact ⟨by rw [HE.out]; rfl, rfl⟩
  · go_enter Tryz.func46, Tryz.ntmps46
    go_wp2_with fail
    go_loopw [5] (fun v wr => ∃ k : Nat, v = .int .i64 (k + 1 : Nat) ∧ k + 1 ≤ ns ∧ wr = w ∧ Hid (d.get r = getGo 65533 (k + 1) (d.full.tail.drop k))) (fun v _ => ns - (intOf v).toNat)
    case atStart => exact ⟨0, rfl, by omega, rfl, by rw [List.drop_zero]; exact HG⟩
    case round =>
      obtain ⟨k, rfl, hk, rfl, HK⟩ := hrel
      by_cases hlt : k + 1 < ns
      · obtain ⟨s, Hs⟩ : ∃ s, Hid (d.full[k + 1]? = some s) := ⟨_, Lib.hid (List.getElem?_eq_getElem (show k + 1 < d.full.length by have := Hls.out; omega))⟩
        obtain ⟨⟨yA, yn, yc⟩, Hy⟩ : ∃ y, Hid (xs[k + 1]? = some y) := ⟨_, Lib.hid (List.getElem?_eq_getElem (show k + 1 < xs.length by omega))⟩
        have hoy : Own wr base 80 2 yA yn yc (s.map encR) := hX.hx.own (k + 1) (yA, yn, yc) s Hy.out Hs.out
        have hly : s.length = yn := by simpa using hoy.len
        have hsm := HF.out _ s Hs.out
        have hcell := hX.hs.cell' rfl Hy.out
        have HH := Lib.hid (sHas_any yA yn yc s 65533 wr (hoy.rd (by omega)) hly (by omega))
        have HD := Lib.hid (drop_at (show d.full.tail[k]? = some s by rw [List.getElem?_tail]; exact Hs.out))
        have hI : (k : Int) + 1 < ns := by omega
        rw [HD.out] at HK
        cases hv : hasB s 65533 with
        | true =>
          have HE := Lib.hid (HK.out.trans (getGo_hit hv))
          rw [hv] at HH
          clear hv hly
          go_wp2_with (go_at_call 21; refine HH.out.mono ?_; rintro e w2 ⟨rfl, rfl⟩)
          go_ret
          exact ⟨by rw [HE.out]; rfl, rfl⟩
        | false =>
          have HE := Lib.hid (HK.out.trans (getGo_miss hv))
          rw [hv] at HH
          clear hv hly
          go_wp2_with (go_at_call 21; refine HH.out.mono ?_; rintro e w2 ⟨rfl, rfl⟩)
          go_roundw
          case rel => exact ⟨k + 1, by go_num, by omega, by first | rfl | trivial, HE⟩
          case measure => simp [intOf]; omega
      · have HE : Hid (d.get r = 0) := Lib.hid (by rw [HK.out, List.drop_of_length_le (by rw [List.length_tail]; have := Hls.out; omega)]; rfl)
        obtain rfl : k + 1 = ns := by omega
        go_wp2
        go_ret
        exact ⟨by rw [HE.out]; rfl, rfl⟩
  · go_enter Tryz.func46, Tryz.ntmps46
    go_wp2_with fail
    go_loopw [5] (fun v wr => ∃ k : Nat, v = .int .i64 (k + 1 : Nat) ∧ k + 1 ≤ ns ∧ wr = w ∧ Hid (d.get q = getGo q (k + 1) (d.full.tail.drop k))) (fun v _ => ns - (intOf v).toNat)
    case atStart => exact ⟨0, rfl, by omega, rfl, by rw [List.drop_zero]; exact HG⟩
    case round =>
      obtain ⟨k, rfl, hk, rfl, HK⟩ := hrel
      by_cases hlt : k + 1 < ns
      · obtain ⟨s, Hs⟩ : ∃ s, Hid (d.full[k + 1]? = some s) := ⟨_, Lib.hid (List.getElem?_eq_getElem (show k + 1 < d.full.length by have := Hls.out; omega))⟩
        obtain ⟨⟨yA, yn, yc⟩, Hy⟩ : ∃ y, Hid (xs[k + 1]? = some y) := ⟨_, Lib.hid (List.getElem?_eq_getElem (show k + 1 < xs.length by omega))⟩
        have hoy : Own wr base 80 2 yA yn yc (s.map encR) := hX.hx.own (k + 1) (yA, yn, yc) s Hy.out Hs.out
        have hly : s.length = yn := by simpa using hoy.len
        have hsm := HF.out _ s Hs.out
        have hcell := hX.hs.cell' rfl Hy.out
        have HH := Lib.hid (sHas_any yA yn yc s q wr (hoy.rd (by omega)) hly (by omega))
        have HD := Lib.hid (drop_at (show d.full.tail[k]? = some s by rw [List.getElem?_tail]; exact Hs.out))
        have hI : (k : Int) + 1 < ns := by omega
        rw [HD.out] at HK
        cases hv : hasB s q with
        | true =>
          have HE := Lib.hid (HK.out.trans (getGo_hit hv))
          rw [hv] at HH
          clear hv hly
          go_wp2_with (go_at_call 21; refine HH.out.mono ?_; rintro e w2 ⟨rfl, rfl⟩)
          go_ret
          exact ⟨by rw [HE.out]; rfl, rfl⟩
        | false =>
          have HE := Lib.hid (HK.out.trans (getGo_miss hv))
          rw [hv] at HH
          clear hv hly
          go_wp2_with (go_at_call 21; refine HH.out.mono ?_; rintro e w2 ⟨rfl, rfl⟩)
          go_roundw
          case rel => exact ⟨k + 1, by go_num, by omega, by first | rfl | trivial, HE⟩
          case measure => simp [intOf]; omega
      · have HE : Hid (d.get q = 0) := Lib.hid (by rw [HK.out, List.drop_of_length_le (by rw [List.length_tail]; have := Hls.out; omega)]; rfl)
        obtain rfl : k + 1 = ns := by omega
        go_wp2
        go_ret
        exact ⟨by rw [HE.out]; rfl, rfl⟩
set_option maxRecDepth 100000 in
set_option maxHeartbeats 2000000 in
theorem vSet_any (base p x : Nat) (d : DbP) (k : Int) (w : World) (h : RfB w base p x d.names d.full) (ho : d.Ok) (hap : Apart d.sets) :
    Calls Tryz.prog 45 #[.pointer (some ⟨p, 0, none⟩), .int .i64 k] w fun e w' => ∃ A n c, e = .returned (.slice A n c) ∧ Own w' w.heap.size 80 2 A n c ((d.setI k).map encR) ∧ Below w.heap.size w w' := by
  obtain ⟨An, nn, cn, As, ns, cs, xs, hX⟩ := h.ex
  obtain ⟨j0, hj0, hy0, hy1, hy2⟩ := info_parts infoR
  have hls := hX.lenS
  have Hlf := Lib.hid hls.2
  have HF := Lib.hid (fun i s (hi : d.full[i]? = some s) => full_small ho hap hi)
  have c1 := hX.blk.cell 1
  simp only [List.getElem?_toArray, List.getElem?_cons_zero, List.getElem?_cons_succ] at c1
  clear ho hap h
  rcases (by omega : k < 0 ∨ (0 ≤ k ∧ (ns : Int) ≤ k) ∨ (0 ≤ k ∧ k < ns)) with h1 | ⟨h1, h2⟩ | ⟨h1, h2⟩
  · have HE : Hid (d.setI k = []) := Lib.hid (if_neg (by omega))
    go_enter Tryz.func45, Tryz.ntmps45
    go_wp2
    go_ret
    exact ⟨none, 0, 0, rfl, by rw [HE.out]; exact Own.nil_ _ _ _ _, Below.refl _ _⟩
  · have HE : Hid (d.setI k = []) := Lib.hid (by unfold DbP.setI; rw [if_pos h1, List.getD_eq_getElem?_getD, List.getElem?_eq_none (by have := Hlf.out; omega)]; rfl)
    go_enter Tryz.func45, Tryz.ntmps45
    go_wp2
    go_ret
    exact ⟨none, 0, 0, rfl, by rw [HE.out]; exact Own.nil_ _ _ _ _, Below.refl _ _⟩
  · obtain ⟨i, rfl⟩ : ∃ i : Nat, k = i := ⟨k.toNat, by omega⟩
    have hi : i < ns := by omega
    obtain ⟨s, Hs⟩ : ∃ s, Hid (d.full[i]? = some s) := ⟨_, Lib.hid (List.getElem?_eq_getElem (by have := Hlf.out; omega))⟩
    obtain ⟨⟨yA, yn, yc⟩, Hx⟩ : ∃ x, Hid (xs[i]? = some x) := ⟨_, Lib.hid (List.getElem?_eq_getElem (by omega))⟩
    have hox : Own w base 80 2 yA yn yc (s.map encR) := hX.hx.own i (yA, yn, yc) s Hx.out Hs.out
    have HE := Lib.hid (setI_at Hs.out)
    have hsl : s.length = yn := by simpa using hox.len
    have hsm := HF.out i s Hs.out
    have Hsl := Lib.hid hsl
    obtain ⟨g, rfl, _, _⟩ := hX.hs.form (by omega)
    have hcell := cell_keep (hX.hs.cell' rfl Hx.out) ((Below.refl w.heap.size w).alloc (Nat.le_refl _) (.cells #[] 80))
    have c1' := cell_keep c1 ((Below.refl w.heap.size w).alloc (Nat.le_refl _) (.cells #[] 80))
    have hyn : yn ≤ 1114112 := by omega
    clear hsl hsm
    go_enter Tryz.func45, Tryz.ntmps45
    go_wp2_with (at_builtin; go_must (refine wpList_app rfl (.tmp 16) (.tmp 23) _ rfl w.heap.size 80 j0 _ 2 8 Tryz.underlying37 hj0 hy0 hy1 hy2 rfl (by omega) (some ⟨w.heap.size, 0, none⟩) 0 0 [] rfl (Own.lit w w.heap.size 80 2 (Nat.le_refl _)) yA yn yc (s.map encR) rfl (by rw [List.length_map]; exact Hsl.out) ((hox.rd (by omega)).alloc _) (encR_ok s) (by unfold maxLen; omega) (by omega) (by simp) ?_); intro A3 c3 w3 ho3 hg3 hA3)
    go_ret
    rw [Nat.zero_add] at ho3
    exact ⟨A3, yn, c3, rfl, by rw [HE.out]; simpa using ho3, below_app ((Below.refl _ _).alloc (Nat.le_refl _) _) hg3 (by simp) (fun a ha => by injection ha with ha; subst ha; exact Nat.le_refl _)⟩
end Go.Proofs.YtejccafolfeabaaGreatDoor

/-
  kerfref04: Text, walked.
-/
namespace Go.Proofs.YtejccafolfeabaaGreatDoor
open Go.RowKit Go.Maps

theorem textK_next {d : DbP} {c : Nat} {n : List UInt8} {s : List (Int × Int)} (hn : d.names[c + 1]? = some n) (hs : d.full[c + 1]? = some s) :
    textG (d.names.tail.take (c + 1)) (d.sets.tail.take (c + 1)) = textG (d.names.tail.take c) (d.sets.tail.take c) ++ (printL s ++ (if s = [] then [] else [32]) ++ [59, 32] ++ n ++ [10]) := by
  rw [textG_take d.names.tail d.sets.tail c n s (by rw [List.getElem?_tail]; exact hn) hs, lineT, setT_eq]
  simp
theorem printL_ne {s : List (Int × Int)} (h : s ≠ []) : printL s ≠ [] := by
  cases s with
  | nil => exact absurd rfl h
  | cons a b =>
    intro hq
    cases b with
    | nil => simp [printL] at hq; exact itemT_ne a hq
    | cons u v => simp [printL] at hq
set_option maxRecDepth 100000 in
set_option maxHeartbeats 4000000 in
theorem vText_any (base p x : Nat) (d : DbP) (w : World) (h : RfB w base p x d.names d.full) (ho : d.Ok) (ha : Apart d.sets) (hnm : d.Named) :
    Calls Tryz.prog 44 #[.pointer (some ⟨p, 0, none⟩)] w fun e w' => e = .returned (.string (bytesOf d.text)) ∧ Below w.heap.size w w' := by
  obtain ⟨An, nn, cn, As, ns, cs, xs, hX⟩ := h.ex
  have hln := hX.lenN
  have hls := hX.lenS
  have hfl := full_len ho
  have hns : nn = ns := by omega
  subst hns
  have hn0 : 0 < nn := by
    have h3 := ho.head
    cases hd : d.names with
    | nil => rw [hd] at h3; cases h3
    | cons a b => rw [hd] at hln; simp at hln; omega
  have hn64 : nn ≤ 64 := by have := ho.few; omega
  obtain ⟨g, rfl, _, _⟩ := hX.hn.form hn0
  obtain ⟨gs, rfl, _, _⟩ := hX.hs.form hn0
  have HNm := Lib.hid (fun k n (hk : d.names[k]? = some n) => (name_part (hnm n (List.mem_of_getElem? hk))).2.1)
  have HNF := Lib.hid (fun k s (hk : d.full[k]? = some s) => full_NF ho s (List.mem_of_getElem? hk))
  have HTx := Lib.hid (fun k => textG_le d.names.tail d.sets.tail k (fun n hn => (name_part (hnm n (List.mem_of_mem_tail hn))).2.1) (by rw [List.length_tail]; omega) (by have := (rng_len ho ha); omega))
  have HText : Hid (d.text = textG d.names.tail d.sets.tail) := rfl
  have Hln := Lib.hid hln
  have Hls := Lib.hid hls
  have Hlt := Lib.hid (show d.sets.tail.length + 1 = nn by rw [show d.full = d.rest :: d.sets.tail from rfl, List.length_cons] at hfl; omega)
  have c0 := hX.blk.cell 0
  have c1 := hX.blk.cell 1
  simp only [List.getElem?_toArray, List.getElem?_cons_zero, List.getElem?_cons_succ] at c0 c1
  clear ho ha hnm h hln hls hfl
  go_enter Tryz.func44, Tryz.ntmps44
  go_wp2_with fail
  go_loopw [3, 4] (fun t v wr => ∃ c : Nat, t = .string (bytesOf (textG (d.names.tail.take c) (d.sets.tail.take c))) ∧ v = .int .i64 (c + 1 : Nat) ∧ c + 1 ≤ nn ∧ Below w.heap.size w wr) (fun _ v _ => nn - (intOf v).toNat)
  case atStart => exact ⟨0, by simp [textG]; rfl, rfl, by omega, Below.refl _ _⟩
  case round =>
    obtain ⟨c, rfl, rfl, hc, hb⟩ := hrel
    have e0 := cell_keep c0 hb
    have e1 := cell_keep c1 hb
    by_cases hlt : c + 1 < nn
    · obtain ⟨n, Hn⟩ : ∃ n, Hid (d.names[c + 1]? = some n) := ⟨_, Lib.hid (List.getElem?_eq_getElem (show c + 1 < d.names.length by have := Hln.out; omega))⟩
      obtain ⟨s, Hs⟩ : ∃ s, Hid (d.full[c + 1]? = some s) := ⟨_, Lib.hid (List.getElem?_eq_getElem (show c + 1 < d.full.length by have := Hls.out; omega))⟩
      obtain ⟨⟨yA, yn, yc⟩, Hy⟩ : ∃ y, Hid (xs[c + 1]? = some y) := ⟨_, Lib.hid (List.getElem?_eq_getElem (show c + 1 < xs.length by have := Hls.out; omega))⟩
      have hoy : Own w base 80 2 yA yn yc (s.map encR) := hX.hx.own (c + 1) (yA, yn, yc) s Hy.out Hs.out
      have hnl := HNm.out _ n Hn.out
      have hNF := HNF.out _ s Hs.out
      have hyn := own_nf_len hoy hNF
      have hly : s.length = yn := by simpa using hoy.len
      have hcn : wr.cell? ⟨g, c + 1, none⟩ = some (.string (bytesOf n)) := by
        have h1 := hX.hn.cell (k := c + 1) (j := 0) (x := encNm n) (u := .string (bytesOf n)) (by rw [List.getElem?_map, Hn.out]; rfl) rfl
        simp only [Nat.mul_one, Nat.add_zero] at h1
        exact cell_keep h1 hb
      have hcy : wr.cell? ⟨gs, c + 1, none⟩ = some (.slice yA yn yc) := cell_keep (hX.hs.cell' rfl Hy.out) hb
      have HP := Lib.hid (sPrint_any yA yn yc s wr ((hoy.rd (by omega)).below hb) hly (by omega))
      have hpr : printP s = printL s := by unfold printP; rw [normR_of_NF hNF]
      have hprl := printL_len s
      have HTake := Lib.hid (textK_next Hn.out Hs.out)
      rw [hpr] at HP
      obtain ⟨P, HPd⟩ : ∃ P : ByteArray, Hid ((⟨(printL s).toArray⟩ : ByteArray) = P) := ⟨_, rfl⟩
      have hPs : P.size ≤ 20100000 := by rw [← HPd.out, ← size_data]; simp only []; omega
      have HPl : Hid (P.data.toList = printL s) := Lib.hid (by rw [← HPd.out])
      have hbn : (bytesOf n).size ≤ 32 := by rw [bytesOf_size]; exact hnl
      rw [HPd.out] at HP
      obtain ⟨T, HT⟩ : ∃ T, Hid (bytesOf (textG (d.names.tail.take c) (d.sets.tail.take c)) = T) := ⟨_, rfl⟩
      have hTs : T.size ≤ 30000000 := by rw [← HT.out, bytesOf_size]; exact HTx.out c
      rw [HT.out]
      have hI1 : (c : Int) + 1 < nn := by omega
      have s1 : (⟨#[59, 32]⟩ : ByteArray).size = 2 := rfl
      have s2 : (⟨#[10]⟩ : ByteArray).size = 1 := rfl
      have s3 : (⟨#[32]⟩ : ByteArray).size = 1 := rfl
      clear hNF hpr hly hoy hprl
      by_cases hse : s = []
      · have hem : P.toList.isEmpty = true := by rw [ByteArray.toList_eq, HPl.out, hse]; rfl
        have HL : Hid (∀ X : ByteArray, X = T ++ P ++ ⟨#[59, 32]⟩ ++ bytesOf n ++ ⟨#[10]⟩ → X = bytesOf (textG (d.names.tail.take (c + 1)) (d.sets.tail.take (c + 1)))) := Lib.hid (fun X hX => by
          subst hX
          rw [HTake.out, if_pos hse, ← HT.out]
          apply ByteArray.ext
          rw [← Array.toList_inj]
          simp [bytesOf, HPl.out])
        clear hse HTake HPl
        go_wp2_with fail
        refine HP.out.mono ?_
        rintro e w2 ⟨rfl, hb2⟩
        have f0 := cell_keep e0 hb2
        have hcn2 := cell_keep hcn hb2
        go_wp2_with fail
        go_roundw
        case rel => exact ⟨c + 1, by rw [HL.out _ rfl], by go_num, by omega, below_step hb hb2 hb.size⟩
        case measure => simp [intOf]; omega
      · have hem : P.toList.isEmpty = false := by
          rw [ByteArray.toList_eq, HPl.out]
          have := printL_ne hse
          cases hq : printL s with
          | nil => exact absurd hq this
          | cons a b => rfl
        have HL : Hid (∀ X : ByteArray, X = T ++ (P ++ ⟨#[32]⟩) ++ ⟨#[59, 32]⟩ ++ bytesOf n ++ ⟨#[10]⟩ → X = bytesOf (textG (d.names.tail.take (c + 1)) (d.sets.tail.take (c + 1)))) := Lib.hid (fun X hX => by
          subst hX
          rw [HTake.out, if_neg hse, ← HT.out]
          apply ByteArray.ext
          rw [← Array.toList_inj]
          simp [bytesOf, HPl.out])
        clear hse HTake HPl
        go_wp2_with fail
        refine HP.out.mono ?_
        rintro e w2 ⟨rfl, hb2⟩
        have f0 := cell_keep e0 hb2
        have hcn2 := cell_keep hcn hb2
        go_wp2_with fail
        go_roundw
        case rel => exact ⟨c + 1, by rw [HL.out _ rfl], by go_num, by omega, below_step hb hb2 hb.size⟩
        case measure => simp [intOf]; omega
    · obtain rfl : c + 1 = nn := by omega
      have HE : Hid (textG (d.names.tail.take c) (d.sets.tail.take c) = d.text) := Lib.hid (by rw [HText.out, List.take_of_length_le (by rw [List.length_tail]; have := Hln.out; omega), List.take_of_length_le (by have := Hlt.out; omega)])
      rw [HE.out]
      go_wp2
      go_ret
      exact ⟨rfl, hb⟩
end Go.Proofs.YtejccafolfeabaaGreatDoor

/-
  kerflaw04: ranged, walked (ranges with classes, compared).
-/
namespace Go.Proofs.YtejccafolfeabaaGreatDoor
open Go.RowKit Go.Maps

def eqDB (x y : Int × Int × Nat) : Bool := decide (x = y)
set_option maxRecDepth 100000 in
theorem eqlD (a b a' b' c c' : Int) (w : World) : (binOp .eql 82 (.agg #[.int .i32 a, .int .i32 b, .int .i64 c]) (.agg #[.int .i32 a', .int .i32 b', .int .i64 c'])).run Tryz.prog w = .ok (.bool (decide ((a, b, c) = (a', b', c')))) w := by
  have hS : Tryz.prog.underlying 82 = some (.struct (Tryz.prog.fieldsOf 82)) := by kernel_rfl
  have hp : Tryz.prog.stoodInHeld 82 = false := by kernel_rfl
  have u3 := Tryz.underlying21
  have a3 := Tryz.isAgg21
  have z3 := Tryz.sizeOf21
  have u4 := Tryz.underlying3
  have a4 := Tryz.isAgg3
  have z4 := Tryz.sizeOf3
  rw [run_eql_struct, show (10000 : Nat) = 9999 + 1 from rfl, run_equalIn_agg w 9999 _ _ _ hS hp]
  simp only [Program.fieldsOf, Tryz.underlying82]
  go_simp
  by_cases h1 : a = a' <;> by_cases h2 : b = b' <;> by_cases h3 : c = c' <;> simp [h1, h2, h3]
theorem neqD (a b a' b' c c' : Int) (w : World) : (binOp .neq 82 (.agg #[.int .i32 a, .int .i32 b, .int .i64 c]) (.agg #[.int .i32 a', .int .i32 b', .int .i64 c'])).run Tryz.prog w = .ok (.bool (!decide ((a, b, c) = (a', b', c')))) w := by
  have h := eqlD a b a' b' c c' w
  rw [run_eql_struct] at h
  rw [run_neq_struct]
  cases hq : (Op.equalIn 10000 82 (.agg #[.int .i32 a, .int .i32 b, .int .i64 c]) (.agg #[.int .i32 a', .int .i32 b', .int .i64 c'])).run Tryz.prog w with
  | ok b' w' => rw [hq] at h; simp at h; simp [h]
  | _ => rw [hq] at h; simp at h
attribute [local go_sem ↓] neqD eqlD
set_option maxRecDepth 100000 in
set_option maxHeartbeats 1000000 in
theorem qranged_any (A B : Option Addr) (n c e : Nat) (l : List (Int × Int × Nat)) (w : World) (hA : Rd w 3 A (l.map encD)) (hB : Rd w 3 B (l.map encD)) (hl : l.length = n) (hn : n ≤ 4000000) :
    Calls Tryz.prog 42 #[.slice A n c, .slice B n e] w fun e w' => e = .returned (.bool true) ∧ ∃ k, w' = w.drewN k := by
  have Hl := Lib.hid hl
  clear hl
  go_enter Tryz.func42, Tryz.ntmps42
  go_wp2
  go_loopw [5] (fun v wr => ∃ i k : Nat, v = .int .i64 i ∧ i ≤ n ∧ wr = w.drewN k) (fun v _ => n - (intOf v).toNat)
  case atStart => exact ⟨0, 0, rfl, by omega, rfl⟩
  case round =>
    obtain ⟨i, k, rfl, hi, rfl⟩ := hrel
    by_cases hlt : i < n
    · obtain ⟨⟨x1, x2, x3⟩, Hx⟩ : ∃ x, Hid (l[i]? = some x) := ⟨_, Lib.hid (List.getElem?_eq_getElem (show i < l.length by have := Hl.out; omega))⟩
      obtain ⟨b, off, rfl, h1, h2, h3⟩ := hA.atD Hx.out
      obtain ⟨b', off', rfl, k1, k2, k3⟩ := hB.atD Hx.out
      have hq := fun W => neqD x1 x2 x1 x2 x3 x3 W
      simp only [decide_true, Bool.not_true] at hq
      go_wp2_with fail
      go_quiet (fail)
      go_wp2
      go_roundw
      case rel => exact ⟨i + 1, _, by go_num, by omega, by first | rfl | exact World.drewN_drewN _ _ _⟩
      case measure => simp [intOf]; omega
    · go_wp2
      go_ret
      exact ⟨rfl, k, rfl⟩
end Go.Proofs.YtejccafolfeabaaGreatDoor

/-
  kerfref04: Ranged, walked (each range sunk to its place).
-/
namespace Go.Proofs.YtejccafolfeabaaGreatDoor
open Go.RowKit Go.Maps

theorem snocD_cases {α : Type} (l : List α) : l = [] ∨ ∃ o y, l = o ++ [y] := by
  rcases List.eq_nil_or_concat l with h | ⟨o, y, h⟩
  · exact .inl h
  · exact .inr ⟨o, y, by simpa using h⟩
theorem sinkD {L l1 l2 : List (Int × Int × Nat)} {x : Int × Int × Nat} (hs : L = l1 ++ l2) (h2 : ∀ y ∈ l2, x.1 < y.1) (h1 : ∀ o y, l1 = o ++ [y] → y.1 ≤ x.1) (hr : RiseC L) : RiseC (l1 ++ x :: l2) ∧ (l1 ++ x :: l2).Perm (L ++ [x]) := by
  subst hs
  constructor
  · unfold RiseC at *
    rw [List.pairwise_append] at hr ⊢
    obtain ⟨ha, hb, hc⟩ := hr
    have hx : ∀ y ∈ l1, y.1 ≤ x.1 := by
      intro y hy
      rcases snocD_cases l1 with rfl | ⟨o, z, rfl⟩
      · simp at hy
      · have hz := h1 o z rfl
        rcases List.mem_append.1 hy with hy | hy
        · have := (List.pairwise_append.1 ha).2.2 y hy z (by simp); omega
        · simp at hy; subst hy; exact hz
    refine ⟨ha, List.pairwise_cons.2 ⟨fun y hy => by have := h2 y hy; omega, hb⟩, fun y hy z hz => ?_⟩
    rcases List.mem_cons.1 hz with rfl | hz
    · exact hx y hy
    · exact hc y hy z hz
  · rw [List.append_assoc]
    exact List.Perm.append_left l1 (List.perm_append_comm (l₁ := [x]) (l₂ := l2))
theorem Own.storedD {w : World} {base : Nat} {e : TypeId} {g n c k : Nat} {l : List (Int × Int × Nat)} (h : Own w base e 3 (some ⟨g, 0, none⟩) n c (l.map encD)) (hk : k < l.length) (x : Int × Int × Nat) :
    Own (((w.setCell ⟨g, k * 3, none⟩ (.int .i32 x.1)).setCell ⟨g, k * 3 + 1, none⟩ (.int .i32 x.2.1)).setCell ⟨g, k * 3 + 2, none⟩ (.int .i64 (x.2.2 : Int))) base e 3 (some ⟨g, 0, none⟩) n c ((l.set k x).map encD) := by
  have h1 := h.stored (k := k) (j := 0) (x := encD l[k]) (by simp [hk]) (by omega) (.int .i32 x.1)
  have h2 := h1.stored (k := k) (j := 1) (x := (encD l[k]).set 0 (.int .i32 x.1)) (by simp [hk]) (by omega) (.int .i32 x.2.1)
  have h3 := h2.stored (k := k) (j := 2) (x := ((encD l[k]).set 0 (.int .i32 x.1)).set 1 (.int .i32 x.2.1)) (by simp [hk]) (by omega) (.int .i64 (x.2.2 : Int))
  have e : (((l.map encD).set k ((encD l[k]).set 0 (.int .i32 x.1))).set k (((encD l[k]).set 0 (.int .i32 x.1)).set 1 (.int .i32 x.2.1))).set k ((((encD l[k]).set 0 (.int .i32 x.1)).set 1 (.int .i32 x.2.1)).set 2 (.int .i64 (x.2.2 : Int))) = (l.set k x).map encD := by
    rw [List.set_set, List.set_set, List.map_set]; rfl
  rw [e] at h3
  exact h3
theorem Own.cellD {w : World} {base : Nat} {e : TypeId} {g n c k : Nat} {l : List (Int × Int × Nat)} {x : Int × Int × Nat} (h : Own w base e 3 (some ⟨g, 0, none⟩) n c (l.map encD)) (hk : l[k]? = some x) :
    w.cell? ⟨g, k * 3, none⟩ = some (.int .i32 x.1) ∧ w.cell? ⟨g, k * 3 + 1, none⟩ = some (.int .i32 x.2.1) ∧ w.cell? ⟨g, k * 3 + 2, none⟩ = some (.int .i64 (x.2.2 : Int)) := by
  have hx : (l.map encD)[k]? = some (encD x) := by simp [hk]
  exact ⟨h.cell (j := 0) hx rfl, h.cell (j := 1) hx rfl, h.cell (j := 2) hx rfl⟩
set_option maxRecDepth 100000 in
set_option maxHeartbeats 8000000 in
theorem vRanged_any (base p x : Nat) (d : DbP) (w : World) (h : RfB w base p x d.names d.full) (ho : d.Ok) (ha : Apart d.sets) :
    Calls Tryz.prog 43 #[.pointer (some ⟨p, 0, none⟩)] w fun e w' => ∃ A n c, e = .returned (.slice A n c) ∧ Own w' w.heap.size 82 3 A n c (d.rng.map encD) ∧ Below w.heap.size w w' := by
  obtain ⟨An, nn, cn, As, ns, cs, xs, hX⟩ := h.ex
  obtain ⟨i0, hi0, hz0, hz1, hz2⟩ := info_parts info_cloneD
  have hls := hX.lenS
  have hfl := full_len ho
  have hn0 : 0 < ns := by
    have h3 := ho.head
    cases hd : d.names with
    | nil => rw [hd] at h3; cases h3
    | cons a b => rw [hd] at hfl; simp at hfl; omega
  have hn64 : ns ≤ 64 := by have := ho.few; omega
  obtain ⟨gs, rfl, _, _⟩ := hX.hs.form hn0
  have c1 := hX.blk.cell 1
  simp only [List.getElem?_toArray, List.getElem?_cons_zero, List.getElem?_cons_succ] at c1
  obtain ⟨T, HT⟩ : ∃ T, Hid (d.sets.tail = T) := ⟨_, rfl⟩
  have HTl : Hid (T.length + 1 = ns) := Lib.hid (by have := HT.out; rw [show d.full = d.rest :: d.sets.tail from rfl, List.length_cons, this] at hls; omega)
  have HTS : Hid (lenS T ≤ 1114112) := Lib.hid (by have := rng_len ho ha; rw [← HT.out]; omega)
  have HTN : Hid (∀ (k : Nat) (s : List (Int × Int)), T[k]? = some s → NF s ∧ d.full[k + 1]? = some s) := Lib.hid (fun k s hk => by
    have : d.full[k + 1]? = some s := by rw [← HT.out] at hk; exact hk
    exact ⟨full_NF ho s (List.mem_of_getElem? this), this⟩)
  have HU : Hid (∀ L, L.Perm (entG 1 T) → RiseC L → L = d.rng) := Lib.hid (fun L hp hr => rng_unique ho ha (by unfold DbP.ents; rw [HT.out]; exact hp) hr)
  have Hlx := Lib.hid hls.1
  clear ho ha h hls hfl
  go_enter Tryz.func43, Tryz.ntmps43
  go_wp2_with fail
  go_loopw [3, 4] (fun l v wr => ∃ (c : Nat) (L : List (Int × Int × Nat)) (A : Option Addr) (n cc : Nat), l = .slice A n cc ∧ v = .int .i64 (c + 1 : Nat) ∧ c + 1 ≤ ns ∧ Hid (RiseC L ∧ L.Perm (gotR T c 0)) ∧ Own wr w.heap.size 82 3 A n cc (L.map encD) ∧ Below w.heap.size w wr) (fun _ v _ => ns - (intOf v).toNat)
  case atStart => exact ⟨0, [], none, 0, 0, rfl, rfl, by omega, Lib.hid ⟨List.Pairwise.nil, by rw [gotR_first]⟩, Own.nil_ _ _ _ _, Below.refl _ _⟩
  case round =>
    obtain ⟨c, L, A, n, cc, rfl, rfl, hc, HL, hol, hb⟩ := hrel
    have hszr := hb.size
    have e1 := cell_keep c1 hb
    by_cases hlt : c + 1 < ns
    · obtain ⟨s, Hs⟩ : ∃ s, Hid (T[c]? = some s) := ⟨_, Lib.hid (List.getElem?_eq_getElem (show c < T.length by have := HTl.out; omega))⟩
      obtain ⟨HNF, Hd⟩ := HTN.out c s Hs.out
      obtain ⟨⟨yA, yn, yc⟩, Hy⟩ : ∃ y, Hid (xs[c + 1]? = some y) := ⟨_, Lib.hid (List.getElem?_eq_getElem (show c + 1 < xs.length by have := Hlx.out; omega))⟩
      have hoy : Own w base 80 2 yA yn yc (s.map encR) := hX.hx.own (c + 1) (yA, yn, yc) s Hy.out Hd
      have hly : s.length = yn := by simpa using hoy.len
      have Hly := Lib.hid hly
      have hny := own_nf_len hoy HNF
      have hcy := hX.hs.cell' rfl Hy.out
      have hI : (c : Int) + 1 < ns := by omega
      clear HNF Hd hly
      go_wp2_with fail
      go_loopw [3, 5] (fun l v wq => ∃ (k : Nat) (L : List (Int × Int × Nat)) (A : Option Addr) (n cc : Nat), l = .slice A n cc ∧ v = .int .i64 k ∧ k ≤ yn ∧ Hid (RiseC L ∧ L.Perm (gotR T c k)) ∧ Own wq w.heap.size 82 3 A n cc (L.map encD) ∧ Below w.heap.size w wq) (fun _ v _ => yn - (intOf v).toNat)
      case atStart => exact ⟨0, L, A, n, cc, rfl, rfl, by omega, HL, hol, hb⟩
      case round =>
        clear HL hol hb hszr e1
        obtain ⟨k, L, A, n, cc, rfl, rfl, hk, HL, hol, hb⟩ := hrel
        have hszr := hb.size
        have e1 := cell_keep c1 hb
        have e2 := cell_keep hcy hb
        have hnl : n ≤ 1114112 := by have h1 := hol.len; rw [List.length_map, HL.out.2.length_eq] at h1; have := gotR_len (S := T) (c := c) (k := k); have := HTS.out; omega
        by_cases hkl : k < yn
        · obtain ⟨b, off, lo, hi, rfl, Hx, hx1, hx2⟩ := (hoy.rd (by omega)).atR (k := k) (by have := Hly.out; omega)
          have HG := Lib.hid (gotR_in Hs.out Hx.out)
          have q1 := cell_keep hx1 hb
          have q2 := cell_keep hx2 hb
          have hIk : (c : Int) + 1 ≤ ns := by omega
          have HW : Hid (IntKind.i64.wrap ((c : Int) + 1) = (c : Int) + 1) := Lib.hid (IntWalk.i64_in _ (by omega))
          have hAlt := hol.lt
          go_wp2_with (at_builtin; go_must (refine wpList_app rfl (.tmp 39) (.tmp 46) _ rfl w.heap.size 82 i0 _ 3 16 Tryz.underlying64 hi0 hz0 hz1 hz2 rfl (by omega) A n cc (L.map encD) rfl ((hol.alloc _).alloc _) _ 1 1 [encD (lo, hi, c + 1)] rfl rfl (Rd.newAt (by simp) (by simp [encD])) (encD_ok [(lo, hi, c + 1)]) (by unfold maxLen; omega) (by omega) (by simp; omega) ?_); intro A3 c3 w3 ho3 hg3 hA3)
          have hx1' : w3.cell? ⟨wr.heap.size, 0, none⟩ = some (.int .i32 lo) := hg3.cell (by simp) (fun e => by
            cases A with
            | none => simp at e
            | some a => have := (hAlt a rfl).2; simp at e; omega)
          have hbl : Below w.heap.size w w3 := below_app ((hb.alloc hszr _).alloc (by simp; omega) _) hg3 (by simp; omega) (fun a ha => (hAlt a ha).1)
          obtain ⟨g, rfl, hgB, hgl⟩ := ho3.form (by omega)
          have hgne : g ≠ wr.heap.size := by
            rcases hA3 with h | h
            · have := (hAlt _ h.symm).2; simp at this; omega
            · simp at h; omega
          have hLn : L.length = n := by simpa using hol.len
          have Ho3 : Own w3 w.heap.size 82 3 (some ⟨g, 0, none⟩) (n + 1) c3 ((L ++ (lo, hi, c + 1) :: []).map encD) := by rw [List.map_append]; exact ho3
          have HLn := Lib.hid hLn
          clear hg3 hA3 hAlt hol ho3 hb hszr hx1 hx2 q1 q2 e1 e2 hLn
          go_loopw [7] (fun i wz => ∃ (j : Nat) (l1 l2 : List (Int × Int × Nat)), i = .int .i64 j ∧ Hid (l1.length = j) ∧ Hid (L = l1 ++ l2) ∧ Hid (∀ y ∈ l2, lo < y.1) ∧
              Own wz w.heap.size 82 3 (some ⟨g, 0, none⟩) (n + 1) c3 ((l1 ++ (lo, hi, c + 1) :: l2).map encD) ∧ wz.cell? ⟨wr.heap.size, 0, none⟩ = some (.int .i32 lo) ∧ Below w.heap.size w wz) (fun i _ => (intOf i).toNat)
          case atStart => exact ⟨n, L, [], by go_num, HLn, by simp [Hid], fun y hy => by simp at hy, Ho3, hx1', hbl⟩
          case round =>
            clear Ho3 hx1' hbl
            obtain ⟨j, l1, l2, rfl, Hj, Hl, Hlt, ho, hc1, hb⟩ := hrel
            have hjn : j ≤ n := by have := HLn.out; rw [Hl.out, List.length_append] at this; have := Hj.out; omega
            rcases Nat.eq_zero_or_pos j with h0 | h0
            · obtain rfl : l1 = [] := List.eq_nil_of_length_eq_zero (Hj.out.trans h0)
              subst h0
              have HE := Lib.hid (sinkD (x := (lo, hi, c + 1)) Hl.out Hlt.out (fun o y h => by simp at h) HL.out.1)
              have HE2 : Hid (RiseC ([] ++ (lo, hi, c + 1) :: l2) ∧ ([] ++ (lo, hi, c + 1) :: l2).Perm (gotR T c (k + 1))) := Lib.hid ⟨HE.out.1, by rw [HG.out]; exact HE.out.2.trans (HL.out.2.append_right _)⟩
              clear HE
              go_wp2_with fail
              go_quiet (fail)
              go_wp2
              go_roundw
              case rel => exact ⟨k + 1, _, _, _, _, rfl, by go_num, by omega, HE2, ho.drewN _, below_drewN hb _⟩
              case measure => simp [intOf]; omega
            · obtain ⟨i, rfl⟩ : ∃ i, j = i + 1 := ⟨j - 1, by omega⟩
              obtain ⟨l1', ⟨y1, y2, y3⟩, rfl⟩ : ∃ l1' y, l1 = l1' ++ [y] := by
                rcases snocD_cases l1 with h | h
                · have := Hj.out; simp [h] at this
                · exact h
              have Hi : Hid (l1'.length = i) := Lib.hid (by have := Hj.out; simpa using this)
              have hgy : (l1' ++ [(y1, y2, y3)] ++ (lo, hi, c + 1) :: l2)[i]? = some (y1, y2, y3) := by have := Hi.out; subst this; simp
              have hgz : (l1' ++ [(y1, y2, y3)] ++ (lo, hi, c + 1) :: l2)[i + 1]? = some (lo, hi, c + 1) := by have := Hi.out; subst this; simp
              have ⟨hy1, hy2, hy3⟩ := ho.cellD hgy
              have ⟨hz1, hz2, hz3⟩ := ho.cellD hgz
              have hjl : i + 1 < (l1' ++ [(y1, y2, y3)] ++ (lo, hi, c + 1) :: l2).length := (List.getElem?_eq_some_iff.1 hgz).1
              clear hgy hgz
              have hf1 := ho.frozen ((i + 1) * 3)
              have hf2 := ho.frozen ((i + 1) * 3 + 1)
              have hf3 := ho.frozen ((i + 1) * 3 + 2)
              have hf4 := ho.frozen (i * 3)
              have hf5 := ho.frozen (i * 3 + 1)
              have hf6 := ho.frozen (i * 3 + 2)
              by_cases hgt : lo < y1
              · have hdd : decide (lo < y1) = true := decide_eq_true hgt
                go_wp2_with fail
                go_quiet (fail)
                go_wp2_with fail
                go_region
                go_wp2
                go_roundw
                case rel =>
                  refine ⟨i, l1', (y1, y2, y3) :: l2, rfl, Hi, Lib.hid (by have := Hl.out; simpa using this), Lib.hid (fun q hq => ?_), ?_, ?_, ?_⟩
                  · rcases List.mem_cons.1 hq with rfl | hq
                    · exact hgt
                    · exact Hlt.out q hq
                  · have k1 := (ho.drewN (nq + 1)).storedD (k := i) (by omega) (lo, hi, c + 1)
                    have k2 := k1.storedD (k := i + 1) (by rw [List.length_set]; exact hjl) (y1, y2, y3)
                    have e : ((l1' ++ [(y1, y2, y3)] ++ (lo, hi, c + 1) :: l2).set i (lo, hi, c + 1)).set (i + 1) (y1, y2, y3) = l1' ++ (lo, hi, c + 1) :: (y1, y2, y3) :: l2 := by
                      have h := Hi.out; subst h; simp
                    rw [e] at k2
                    exact k2
                  · simp [World.cell?_setCell_other]; exact hc1
                  · exact ((((((below_drewN hb _).setCell hgB _).setCell hgB _).setCell hgB _).setCell hgB _).setCell hgB _).setCell hgB _
                case measure => simp [intOf]
              · have hdd : decide (lo < y1) = false := decide_eq_false hgt
                have HE := Lib.hid (sinkD (x := (lo, hi, c + 1)) Hl.out Hlt.out (fun o y h => by
                  obtain ⟨_, h⟩ := List.append_inj' h rfl
                  simp at h; subst h; simp only; omega) HL.out.1)
                have HE2 : Hid (RiseC (l1' ++ [(y1, y2, y3)] ++ (lo, hi, c + 1) :: l2) ∧ (l1' ++ [(y1, y2, y3)] ++ (lo, hi, c + 1) :: l2).Perm (gotR T c (k + 1))) := Lib.hid ⟨HE.out.1, by rw [HG.out]; exact HE.out.2.trans (HL.out.2.append_right _)⟩
                clear HE hgt
                go_wp2_with fail
                go_quiet (fail)
                go_wp2
                go_roundw
                case rel => exact ⟨k + 1, _, _, _, _, rfl, by go_num, by omega, HE2, ho.drewN _, below_drewN hb _⟩
                case measure => simp [intOf]; omega
        · have HL' : Hid (RiseC L ∧ L.Perm (gotR T (c + 1) 0)) := Lib.hid (by rw [← gotR_out Hs.out (k := k) (by have := Hly.out; omega)]; exact HL.out)
          go_wp2
          go_roundw
          case rel => exact ⟨c + 1, L, A, n, cc, rfl, by go_num, by omega, HL', hol, hb⟩
          case measure => simp [intOf]; omega
    · obtain rfl : c + 1 = ns := by omega
      have HE : Hid (L = d.rng) := Lib.hid (HU.out L (by have h1 := HL.out.2; rw [gotR_end (by have := HTl.out; omega)] at h1; exact h1) HL.out.1)
      rw [HE.out] at hol
      go_wp2
      go_ret
      exact ⟨_, _, _, rfl, hol, hb⟩
end Go.Proofs.YtejccafolfeabaaGreatDoor

/-
  kerflaw04: stands, walked.
-/
namespace Go.Proofs.YtejccafolfeabaaGreatDoor
open Go.RowKit Go.Maps

theorem num_at {d : DbP} (ho : d.Ok) {i : Nat} {n : List UInt8} (h : d.names[i]? = some n) : d.num n = some i := by
  have hm := List.mem_of_getElem? h
  cases hq : d.num n with
  | none => exact absurd hm (idxOf?_none hq)
  | some j =>
    have hj : d.names[j]? = some n := idxOf?_some hq
    obtain ⟨h1, e1⟩ := List.getElem?_eq_some_iff.1 hj
    obtain ⟨h2, e2⟩ := List.getElem?_eq_some_iff.1 h
    have hP := List.pairwise_iff_getElem.1 ho.nodup
    rcases Nat.lt_trichotomy i j with k | k | k
    · exact absurd (e2.trans e1.symm) (hP i j h2 h1 k)
    · rw [k]
    · exact absurd (e1.trans e2.symm) (hP j i h1 h2 k)
theorem num_empty {d : DbP} (hnm : d.Named) : d.num [] = none := idx_none fun h => by
  have h1 := hnm [] h
  revert h1; decide
theorem setI_small {d : DbP} (ho : d.Ok) (ha : Apart d.sets) (z : Int) : (d.setI z).length ≤ 1114112 := by
  unfold DbP.setI
  split
  · rw [List.getD_eq_getElem?_getD]
    cases hq : d.full[z.toNat]? with
    | none => simp
    | some s => exact full_small ho ha hq
  · simp
theorem Own.storedNm {w : World} {base : Nat} {e : TypeId} {g n c k : Nat} {l : List (List UInt8)} (h : Own w base e 1 (some ⟨g, 0, none⟩) n c (l.map encNm)) (hk : k < l.length) (y : List UInt8) :
    Own (w.setCell ⟨g, k, none⟩ (.string (bytesOf y))) base e 1 (some ⟨g, 0, none⟩) n c ((l.set k y).map encNm) := by
  have h1 := h.stored (k := k) (j := 0) (x := encNm l[k]) (by simp [hk]) (by omega) (.string (bytesOf y))
  rw [Nat.mul_one, Nat.add_zero] at h1
  have e : (l.map encNm).set k ((encNm l[k]).set 0 (.string (bytesOf y))) = (l.set k y).map encNm := by rw [List.map_set]; rfl
  rw [e] at h1
  exact h1
theorem Own.cellNm {w : World} {base n c g k : Nat} {e : TypeId} {l : List (List UInt8)} {y : List UInt8} (h : Own w base e 1 (some ⟨g, 0, none⟩) n c (l.map encNm)) (hy : l[k]? = some y) : w.cell? ⟨g, k, none⟩ = some (.string (bytesOf y)) := by
  have := h.cell (k := k) (j := 0) (x := encNm y) (u := .string (bytesOf y)) (by rw [List.getElem?_map, hy]; rfl) rfl
  simpa using this
set_option maxRecDepth 100000 in
set_option maxHeartbeats 8000000 in
theorem qstands_any (base p pr x : Nat) (d : DbP) (Aq : Option Addr) (nq cq : Nat) (q : List Int) (w : World) (hd : DbAt w p d) (hr : RfB w base pr x d.names d.full) (ho : d.Ok) (ha : Apart d.sets) (hnm : d.Named) (hT : TabB w)
    (hq : Rd w 1 Aq (q.map fun r => [.int .i32 r])) (hql : q.length = nq) (hqn : nq ≤ 300) :
    Calls Tryz.prog 16 #[.pointer (some ⟨p, 0, none⟩), .pointer (some ⟨pr, 0, none⟩), .slice Aq nq cq] w fun e w' => e = .returned (.bool true) ∧ Below w.heap.size w w' := by
  obtain ⟨An, nn, cn, As, ns, cs, xs, hX⟩ := hr.ex
  have Hln := Lib.hid hX.lenN
  have hn64 : nn ≤ 64 := by have := ho.few; have := Hln.out; omega
  have HRn := Lib.hid (hX.hn.rd (by omega))
  have c0 := hX.blk.cell 0
  simp only [List.getElem?_toArray, List.getElem?_cons_zero] at c0
  have HRl := Lib.hid ((rng_len ho ha).1)
  have HNames := Lib.hid (fun W h => wNames_any p d W h ho)
  have HRanged := Lib.hid (fun W h => wRanged_any p d W h ho ha)
  have HText := Lib.hid (fun W h hT => wText_any p d W h ho ha hnm hT)
  have HSet := Lib.hid (fun z W h => wSet_any p d z W h ho ha)
  have HGet := Lib.hid (fun r W h => wGet_any p d r W h ho ha)
  have HClass := Lib.hid (fun n W h => wClass_any p d n W h ho)
  have HvR := Lib.hid (fun W h => vRanged_any base pr x d W h ho ha)
  have HvT := Lib.hid (fun W h => vText_any base pr x d W h ho ha hnm)
  have HvS := Lib.hid (fun z W h => vSet_any base pr x d z W h ho ha)
  have HvG := Lib.hid (fun r W h => vGet_any base pr x d r W h ho ha)
  have HNum := Lib.hid (fun i n (h : d.names[i]? = some n) => num_at ho h)
  have HNE := Lib.hid (num_empty hnm)
  have HNl := Lib.hid (fun n (hk : n ∈ d.names) => (name_part (hnm n hk)).2.1)
  have HSs := Lib.hid (fun z => setI_small ho ha z)
  have Hql := Lib.hid hql
  obtain ⟨T, HTd⟩ : ∃ T, Hid (bytesOf d.text = T) := ⟨_, rfl⟩
  rw [HTd.out] at HText HvT
  clear ho ha hnm hql hX
  go_enter Tryz.func16, Tryz.ntmps16
  go_wp2_with fail
  refine (HNames.out w hd).mono ?_
  rintro e w1 ⟨A1, n1, c1, rfl, ho1, hb1⟩
  obtain rfl : n1 = nn := by have := ho1.len; rw [List.length_map] at this; have := Hln.out; omega
  go_wp2_with fail
  refine (HRanged.out w1 (hd.below hb1)).mono ?_
  rintro e w2 ⟨A2, n2, c2, rfl, ho2, hb2⟩
  have Hl2 : Hid (d.rng.length = n2) := Lib.hid (by have := ho2.len; rw [List.length_map] at this; exact this)
  have hn2 : n2 ≤ 1114112 := by have := Hl2.out; have := HRl.out; omega
  have hB2 := below_two hb1 hb2
  have e0 := cell_keep c0 hB2
  go_wp2_with fail
  refine (qtexts_any A1 An n1 c1 cn d.names w2 ((ho1.below hb2).rd (by omega)) (HRn.out.below hB2) Hln.out (by omega)).mono ?_
  rintro e w3 ⟨rfl, k3, rfl⟩
  go_wp2_with fail
  refine (HvR.out _ ((hr.below hB2).below (below_refl_drewN w2 k3))).mono ?_
  rintro e w4 ⟨A4, n4, c4, rfl, ho4, hb4⟩
  obtain rfl : n4 = n2 := by have := ho4.len; rw [List.length_map] at this; have := Hl2.out; omega
  have hB4 := below_two (below_drewN hB2 k3) hb4
  have ho1' := ((ho1.below hb2).drewN k3).below hb4
  have ho2' := (ho2.drewN k3).below hb4
  go_wp2_with fail
  refine (qranged_any A2 A4 n4 c2 c4 d.rng w4 (ho2'.rd (by omega)) (ho4.rd (by omega)) Hl2.out (by omega)).mono ?_
  rintro e w5 ⟨rfl, k5, rfl⟩
  have hB5 := below_drewN hB4 k5
  go_wp2_with fail
  refine (HText.out _ (hd.below hB5) (cell_keep hT hB5)).mono ?_
  rintro e w6 ⟨rfl, hb6⟩
  have hB6 := below_two hB5 hb6
  go_wp2_with fail
  refine (HvT.out _ (hr.below hB6)).mono ?_
  rintro e w7 ⟨rfl, hb7⟩
  have hB7 := below_two hB6 hb7
  have hn1 := (((ho1'.drewN k5).below hb6).below hb7)
  have hg1 := (((ho2'.drewN k5).below hb6).below hb7)
  have hz1 := hb1.size
  clear ho1 ho2 ho4 ho1' ho2' hb1 hb2 hb4 hb6 hb7 hB2 hB4 hB5 hB6 e0
  go_wp2_with fail
  go_loopw [9] (fun v wr => ∃ z : Int, v = .int .i64 z ∧ -1 ≤ z ∧ z ≤ n1 + 1 ∧ Below w7.heap.size w7 wr) (fun v _ => ((n1 : Int) + 2 - intOf v).toNat)
  case atStart => exact ⟨-1, rfl, by omega, by omega, Below.refl _ _⟩
  case round =>
    obtain ⟨z, rfl, hz0, hz2, hb⟩ := hrel
    have hB := below_two hB7 hb
    have e0 := cell_keep c0 hB
    by_cases hlt : z ≤ n1
    · have hdz : decide (z ≤ (n1 : Int)) = true := decide_eq_true hlt
      have hsl := HSs.out z
      go_wp2_with fail
      refine (HSet.out z wr (hd.below hB)).mono ?_
      rintro e wa ⟨A, n, c, rfl, hoa, hba⟩
      have hla : (d.setI z).length = n := by have := hoa.len; rw [List.length_map] at this; exact this
      go_wp2_with fail
      refine (HvS.out z wa (hr.below (below_two hB hba))).mono ?_
      rintro e wb ⟨A', n', c', rfl, hob, hbb⟩
      have hlb : (d.setI z).length = n' := by have := hob.len; rw [List.length_map] at this; exact this
      obtain rfl : n' = n := by omega
      have hoa2 := hoa.below hbb
      have hnb : n' ≤ 1114112 := by omega
      have HSm := sSame_any A A' n' c n' c' (d.setI z) (d.setI z) wb (hoa2.rd (by omega)) (hob.rd (by omega)) hla hlb (by unfold maxLen; omega) (by unfold maxLen; omega)
      rw [decide_eq_true (rfl : d.setI z = d.setI z)] at HSm
      replace HSm := Lib.hid HSm
      have hbw := below_two hba hbb
      have Hla := Lib.hid hla
      clear hla hlb hob
      go_wp2_with fail
      refine HSm.out.mono ?_
      rintro e wc ⟨rfl, k, rfl⟩
      have hoc := hoa2.drewN k
      have hbc := below_drewN hbw k
      clear hoa hoa2 hbw HSm hba hbb
      go_wp2_with fail
      go_loopw [11] (fun v wq => ∃ (j : Nat) (l' : List (Int × Int)), v = .int .i64 j ∧ j ≤ n' ∧ Own wq wr.heap.size 80 2 A n' c (l'.map encR) ∧ Below wr.heap.size wr wq) (fun v _ => n' - (intOf v).toNat)
      case atStart => exact ⟨0, d.setI z, rfl, by omega, hoc, hbc⟩
      case round =>
        clear hoc hbc e0
        obtain ⟨j, l', rfl, hj, hol, hbq⟩ := hrel
        have hll : l'.length = n' := by simpa using hol.len
        by_cases hlj : j < n'
        · obtain ⟨g, rfl, hgB, _⟩ := hol.form (by omega)
          obtain ⟨y, hy⟩ : ∃ y, l'[j]? = some y := ⟨_, List.getElem?_eq_getElem (show j < l'.length by omega)⟩
          have ⟨hy1, hy2⟩ := hol.cellR hy
          have hf1 := hol.frozen (j * 2)
          have hf2 := hol.frozen (j * 2 + 1)
          have hjl : j < l'.length := by omega
          have hll2 := Lib.hid hll
          clear hll hy
          go_wp2
          go_roundw
          case rel => exact ⟨j + 1, l'.set j (0, 0), by go_num, by omega, hol.storedR hjl 0 0, (hbq.setCell hgB _).setCell hgB _⟩
          case measure => simp [intOf]; omega
        · clear hll
          go_wp2
          go_roundw
          case rel => exact ⟨z + 1, by go_num, by omega, by omega, below_two hb hbq⟩
          case measure => simp [intOf]; omega
    · have hdz : decide (z ≤ (n1 : Int)) = false := decide_eq_false hlt
      have hn2 := hn1.below hb
      have hg2 := hg1.below hb
      clear hn1 hg1
      go_wp2_with fail
      go_loopw [12] (fun v wq => ∃ (i : Nat) (M : List (List UInt8)), v = .int .i64 i ∧ i ≤ n1 ∧ Own wq w.heap.size 9 1 A1 n1 c1 (M.map encNm) ∧ Own wq w1.heap.size 82 3 A2 n4 c2 (d.rng.map encD) ∧ Below w.heap.size w wq) (fun v _ => n1 - (intOf v).toNat)
      case atStart => exact ⟨0, d.names, rfl, by omega, hn2, hg2, hB⟩
      case round =>
        clear hn2 hg2 hB e0 hdz hb
        obtain ⟨i, M, rfl, hi, hnm, hgm, hB⟩ := hrel
        have e0 := cell_keep c0 hB
        by_cases hlt : i < n1
        · obtain ⟨y, Hy⟩ : ∃ y, Hid (d.names[i]? = some y) := ⟨_, Lib.hid (List.getElem?_eq_getElem (show i < d.names.length by have := Hln.out; omega))⟩
          obtain ⟨b, off, rfl, hc0⟩ := HRn.out.atS Hy.out
          have hc := cell_keep hc0 hB
          have HC := HClass.out y wr (hd.below hB) (by have := HNl.out y (List.mem_of_getElem? Hy.out); omega)
          rw [HNum.out i y Hy.out] at HC
          replace HC := Lib.hid HC
          obtain ⟨g, rfl, hgB, _⟩ := hnm.form (by omega)
          have hMl : M.length = n1 := by simpa using hnm.len
          obtain ⟨u, hu⟩ : ∃ u, M[i]? = some u := ⟨_, List.getElem?_eq_getElem (show i < M.length by omega)⟩
          have hu1 := hnm.cellNm hu
          have hf1 := hnm.frozen i
          have hiM : i < M.length := by omega
          have hap := hnm.apart hgm (by decide)
          clear hMl hu
          go_wp2_with fail
          refine HC.out.mono ?_
          rintro e w' ⟨rfl, rfl⟩
          go_wp2
          go_roundw
          case rel => exact ⟨i + 1, M.set i [63], by go_num, by omega, hnm.storedNm hiM [63], hgm.setCell (p := ⟨g, i, none⟩) (fun a ha e => hap ⟨g, 0, none⟩ a rfl ha e.symm) _, hB.setCell (p := ⟨g, i, none⟩) hgB _⟩
          case measure => simp [intOf]; omega
        · go_wp2_with fail
          go_loopw [15] (fun v wq => ∃ (i : Nat) (G : List (Int × Int × Nat)), v = .int .i64 i ∧ i ≤ n4 ∧ Own wq w1.heap.size 82 3 A2 n4 c2 (G.map encD) ∧ Below w.heap.size w wq) (fun v _ => n4 - (intOf v).toNat)
          case atStart => exact ⟨0, d.rng, rfl, by omega, hgm, hB⟩
          case round =>
            clear hnm hgm hB e0
            obtain ⟨i, G, rfl, hi, hgm, hB⟩ := hrel
            by_cases hlt : i < n4
            · obtain ⟨g, rfl, hgB, _⟩ := hgm.form (by omega)
              have hGl : G.length = n4 := by simpa using hgm.len
              obtain ⟨u, hu⟩ : ∃ u, G[i]? = some u := ⟨_, List.getElem?_eq_getElem (show i < G.length by omega)⟩
              have ⟨hu1, hu2, hu3⟩ := hgm.cellD hu
              have hf1 := hgm.frozen (i * 3)
              have hf2 := hgm.frozen (i * 3 + 1)
              have hf3 := hgm.frozen (i * 3 + 2)
              have hiM : i < G.length := by omega
              have hgB' : w.heap.size ≤ g := by omega
              clear hGl hu
              go_wp2
              go_roundw
              case rel => exact ⟨i + 1, G.set i (0, 0, 0), by go_num, by omega, hgm.storedD hiM (0, 0, 0), ((hB.setCell hgB' _).setCell hgB' _).setCell hgB' _⟩
              case measure => simp [intOf]; omega
            · go_wp2_with fail
              go_loopw [16] (fun v wq => ∃ i : Nat, v = .int .i64 i ∧ i ≤ nq ∧ Below w.heap.size w wq) (fun v _ => nq - (intOf v).toNat)
              case atStart => exact ⟨0, rfl, by omega, hB⟩
              case round =>
                clear hgm hB
                obtain ⟨i, rfl, hi, hB⟩ := hrel
                by_cases hlt : i < nq
                · obtain ⟨qb, qo, r, rfl, Hr, hq0⟩ := hq.at1 (k := i) (by rw [Hql.out]; exact hlt)
                  have hc := cell_keep hq0 hB
                  have hdr := hd.below hB
                  have hrr := hr.below hB
                  have HG1 := Lib.hid (fun W h => HGet.out r W h)
                  have HG2 := Lib.hid (fun W h => HvG.out r W h)
                  generalize ((d.get r : Nat) : Int) = G at HG1 HG2
                  have hGG : (G != G) = false := by simp
                  go_wp2_with fail
                  go_region_held3 (fun W => W.cell? ⟨qb, qo + i, none⟩ = some (.int .i32 r) ∧ Below wr.heap.size wr W)
                    (first | exact ⟨hcz, hBz⟩ | exact ⟨hc, Below.refl _ _⟩ | exact ⟨hc, below_drewN (Below.refl _ _) 1⟩)
                    (first
                      | (go_at_call 22; go_split_ands; refine (HG1.out _ (hdr.below (by assumption))).mono ?_; rintro e wz ⟨rfl, hz⟩; have hBz := below_two (by assumption) hz; have hcz := cell_keep hc hBz)
                      | (go_at_call 46; go_split_ands; refine (HG2.out _ (hrr.below (by assumption))).mono ?_; rintro e wz ⟨rfl, hz⟩; subst hz))
                  go_wp2
                  go_roundw
                  case rel => exact ⟨i + 1, by go_num, by omega, below_two hB hBz⟩
                  case measure => simp [intOf]; omega
                · have HC := HClass.out [] wr (hd.below hB) (by simp)
                  rw [HNE.out] at HC
                  replace HC := Lib.hid HC
                  have e0 := cell_keep c0 hB
                  go_wp2_with fail
                  refine HC.out.mono ?_
                  rintro e w' ⟨rfl, rfl⟩
                  clear HC
                  go_wp2_with fail
                  go_region_held3 (fun W => W.cell? ⟨pr, 0, none⟩ = some (.slice An n1 cn) ∧ Below w.heap.size w W)
                    (first | exact ⟨kd, Bd⟩ | exact ⟨kc, Bc⟩ | exact ⟨kb, Bb⟩ | exact ⟨ka, Ba⟩ | exact ⟨e0, hB⟩ | exact ⟨e0, below_drewN hB 1⟩)
                    (first
                      | (go_at_call 17; go_split_ands; refine (HNames.out _ (hd.below (by assumption))).mono ?_; rintro e wa ⟨A5, n5, c5, rfl, ho5, hb5⟩; have Ba := below_two (by assumption) hb5; have ka := cell_keep c0 Ba; have hn5 : n1 = n5 := (by have := ho5.len; rw [List.length_map] at this; have := Hln.out; omega); subst hn5)
                      | (go_at_call 24; go_split_ands; refine (qtexts_any _ An n1 _ cn d.names _ (ho5.rd (by decide)) (HRn.out.below (by assumption)) Hln.out (by omega)).mono ?_; rintro e wb ⟨rfl, kq, rfl⟩; have Bb := below_drewN Ba kq; have kb := cell_keep c0 Bb)
                      | (go_at_call 23; go_split_ands; refine (HText.out _ (hd.below (by assumption)) (cell_keep hT (by assumption))).mono ?_; rintro e wc ⟨rfl, hbc⟩; have Bc := below_two (by assumption) hbc; have kc := cell_keep c0 Bc)
                      | (go_at_call 44; go_split_ands; refine (HvT.out _ (hr.below (by assumption))).mono ?_; rintro e wd ⟨rfl, hbd⟩; have Bd := below_two (by assumption) hbd; have kd := cell_keep c0 Bd))
                  go_wp2
                  go_ret
                  exact ⟨rfl, Bd⟩
end Go.Proofs.YtejccafolfeabaaGreatDoor

/-
  props.(*Db).all, walked.
-/
namespace Go.Proofs.YtejccafolfeabaaGreatDoor
open Go.RowKit Go.Maps Go.Shelf Go.Sort

set_option maxHeartbeats 1000000 in
theorem closureA (x y : Int × Int × Nat) (W : World) :
    Calls Tryz.prog 121 #[.agg #[.int .i32 x.1, .int .i32 x.2.1, .int .i64 x.2.2], .agg #[.int .i32 y.1, .int .i32 y.2.1, .int .i64 y.2.2]] W fun e w' => e = .returned (.int .i64 (cmpV x.1 y.1)) ∧ ∃ q os', w' = grow (W.drewN q) os' := by
  go_enter Tryz.func121, Tryz.ntmps121
  go_wp2_with (go_at_call 52; refine (lCompare_any _ _ _).mono ?_; rintro e w' ⟨rfl, rfl⟩)
  go_ret
  exact ⟨rfl, 0, _, by rw [alloc_eq_grow, alloc_eq_grow, grow_grow]; rfl⟩
theorem cmpLaysA (blk off size : Nat) (w : World) : CmpLays Tryz.prog 121 #[] encD 3 cfD blk off size w :=
  fun _ _ _ _ x y => closureA x y _
theorem sortA_any (B g n c : Nat) (l : List (Int × Int × Nat)) (w : World) (hown : Own w B 82 3 (some ⟨g, 0, none⟩) n c (l.map encD)) (hn : n ≤ 4000000) :
    Calls Tryz.prog 74 #[.slice (some ⟨g, 0, none⟩) n c, .func (.func 121) #[] #[]] w fun e w' => e = .returned (.tuple #[]) ∧ ∃ l', Hid (l'.Perm l) ∧ Hid (RiseC l') ∧ Own w' B 82 3 (some ⟨g, 0, none⟩) n c (l'.map encD) ∧ w.grownBy w' (some g) := by
  have eg : ∀ args w, (callFunc 121 args).run Tryz.prog w = .ok (.enter 121 args) w := enters_of Tryz.func121 (by kernel_rfl) rfl
  let d : Array (Int × Int × Nat) := l.toArray
  have hdl : d.toList.map encD = l.map encD := by simp [d]
  have hdv : d.toList = l := by simp [d]
  have ho : Own w B 82 3 (some ⟨g, 0, none⟩) n c (d.toList.map encD) := by rw [hdl]; exact hown
  have hds : d.size = n := by have := ho.len; simpa using this
  have hlt : g < w.heap.size := (ho.lt _ rfl).2
  have hcon := AnyQ.slices_SortFunc Tryz.sortRd 3 Tryz.isAgg82 Tryz.sizeOf82 encD encD_len (fun x v hv => by simp [encD] at hv; rcases hv with rfl | rfl | rfl <;> rfl) cfD swoD 121 #[] g 0 c d w eg (cmpLaysA g 0 d.size w) (own_holdsK encD_len (by omega) ho) hlt (by omega)
  change Calls Tryz.prog 74 _ _ _ at hcon
  rw [hds] at hcon
  refine hcon.mono ?_
  rintro e w' ⟨rfl, d', m, os, hp, hs, rfl⟩
  obtain ⟨h1, h2⟩ := own_sorted encD_len (by omega) ho (d' := d') (by rw [hp.1]) m os
  refine ⟨rfl, d'.toList, ?_, ?_, h1, h2⟩
  · have hpp := hp.2.2
    rw [Array.extract_eq_self_of_le (by rw [hp.1]; omega), Array.extract_eq_self_of_le (by omega)] at hpp
    exact Lib.hid (by rw [← hdv]; exact hpp)
  · refine Lib.hid ?_
    unfold RiseC
    rw [List.pairwise_iff_getElem]
    intro i j hi hj hij
    have hi' : i < d'.size := by simpa using hi
    have hj' : j < d'.size := by simpa using hj
    have := hs i j (Nat.zero_le _) hij (by rw [hp.1] at hj'; omega)
    rw [ltD] at this
    rw [getElem!_pos d' j hj', getElem!_pos d' i hi'] at this
    simp at this
    simpa using this
set_option maxRecDepth 100000 in
set_option maxHeartbeats 2000000 in
theorem wall_any (p : Nat) (d : DbP) (w : World) (h : DbAt w p d) (ho : d.Ok) (ha : Apart d.sets) :
    Calls Tryz.prog 91 #[.pointer (some ⟨p, 0, none⟩)] w fun e w' => ∃ g n c, e = .returned (.slice (some ⟨g, 0, none⟩) n c) ∧ 0 < n ∧ n ≤ 1114112 ∧ Own w' w.heap.size 82 3 (some ⟨g, 0, none⟩) n c (d.allR.map encD) ∧ Below w.heap.size w w' := by
  obtain ⟨An, nn, cn, bm, nm, D, As, ns, cs, xs, Ar, nr, cr, hp, _, _, _, hsx, hx, hr⟩ := h.ex
  obtain ⟨i0, hi0, hz0, hz1, hz2⟩ := info_parts info_cloneD
  have hl : d.rng.length = nr := by simpa using hr.len
  have hrd := hr.rd (by omega)
  have hk : nr ≤ 1114112 := by have := (rng_len ho ha).1; omega
  have hxl : xs.length = ns := by have := hsx.len; simpa using this
  have hfl : d.full.length = ns := by rw [← hx.len]; exact hxl
  have hfl2 := full_len ho
  have hns : 0 < ns := by
    have h3 := ho.head
    cases hd : d.names with
    | nil => rw [hd] at h3; cases h3
    | cons a b => rw [hd] at hfl2; simp at hfl2; omega
  obtain ⟨gs, rfl, _, _⟩ := hsx.form hns
  have hf0 : d.full[0]? = some d.rest := rfl
  obtain ⟨⟨yA, yn, yc⟩, hy0⟩ : ∃ y, xs[0]? = some y := ⟨_, List.getElem?_eq_getElem (show 0 < xs.length by omega)⟩
  have hoy : Own w 0 80 2 yA yn yc (d.rest.map encR) := hx.own 0 (yA, yn, yc) d.rest hy0 hf0
  have hny := own_nf_len hoy (full_NF ho d.rest (List.mem_of_getElem? hf0))
  have Hly : Hid (d.rest.length = yn) := Lib.hid (by simpa using hoy.len)
  have HC := Lib.hid (cloneD_any Ar nr cr d.rng w hrd hl (by omega))
  have HU := Lib.hid (fun (l' : List (Int × Int × Nat)) (h1 : l'.Perm (d.rng ++ d.rest.map fun x : Int × Int => (x.1, x.2, (0 : Nat)))) h2 => allR_unique ho ha (h1.trans (all_perm d)) h2)
  have HLen := Lib.hid (And.intro (allR_len ho ha) (show 0 < d.allR.length by
    have ht := allR_tile ho ha
    cases hq : d.allR with
    | nil => rw [hq] at ht; cases ht
    | cons x r => simp))
  have c3 := hp.cell 3
  have c2 := hp.cell 2
  have cy := hsx.cell' rfl (k := 0) hy0
  simp at c3 c2
  obtain ⟨L, HL⟩ : ∃ L, Hid (d.rest = L) := ⟨_, rfl⟩
  obtain ⟨G, HG⟩ : ∃ G, Hid (d.rng = G) := ⟨_, rfl⟩
  rw [HL.out] at hoy Hly HU
  rw [HG.out] at HC HU
  clear hl hy0 hf0 hfl hfl2 hxl ho ha hr hx h
  go_enter Tryz.func91, Tryz.ntmps91
  go_wp2_with fail
  refine HC.out.mono ?_
  rintro e w1 ⟨A1, c1, rfl, ho1, hb1⟩
  have k2 := cell_keep c2 hb1
  have k0 := cell_keep cy hb1
  go_wp2_with fail
  go_loopw [3, 18] (fun a v wr => ∃ (k : Nat) (A1 : Option Addr) (c1 : Nat), a = .slice A1 (nr + k) c1 ∧ v = .int .i64 k ∧ k ≤ yn ∧ Own wr w.heap.size 82 3 A1 (nr + k) c1 ((G ++ (L.take k).map fun x : Int × Int => (x.1, x.2, (0 : Nat))).map encD) ∧ Below w.heap.size w wr) (fun _ v _ => yn - (intOf v).toNat)
  case atStart => exact ⟨0, A1, c1, rfl, rfl, by omega, by simpa using ho1, hb1⟩
  case round =>
    clear ho1 hb1 k2 k0
    obtain ⟨k, A1, c1, rfl, rfl, hk', ho, hb⟩ := hrel
    have hszr := hb.size
    by_cases hlt : k < yn
    · obtain ⟨b, off, lo, hi, rfl, Hx, hx1, hx2⟩ := (hoy.rd (by omega)).atR (k := k) (by rw [Hly.out]; exact hlt)
      have q1 := cell_keep hx1 hb
      have q2 := cell_keep hx2 hb
      have HT := Lib.hid (show (G ++ (L.take (k + 1)).map fun x : Int × Int => (x.1, x.2, (0 : Nat))) = (G ++ (L.take k).map fun x : Int × Int => (x.1, x.2, (0 : Nat))) ++ [(lo, hi, 0)] by rw [List.take_add_one, Hx.out]; simp)
      go_wp2_with (at_builtin; go_must (refine wpList_app rfl (.tmp 22) (.tmp 28) _ rfl w.heap.size 82 i0 _ 3 16 Tryz.underlying64 hi0 hz0 hz1 hz2 rfl (by omega) A1 (nr + k) c1 ((G ++ (L.take k).map fun x : Int × Int => (x.1, x.2, (0 : Nat))).map encD) rfl ((ho.alloc _).alloc _) _ 1 1 [encD (lo, hi, 0)] rfl rfl (Rd.newAt (by simp) (by simp [encD])) (encD_ok [(lo, hi, 0)]) (by unfold maxLen; omega) (by omega) (by simp; omega) ?_); intro A3 c3 w3 ho3 hg3 hA3)
      have Ho3 : Own w3 w.heap.size 82 3 A3 (nr + (k + 1)) c3 ((G ++ (L.take (k + 1)).map fun x : Int × Int => (x.1, x.2, (0 : Nat))).map encD) := by rw [HT.out, List.map_append]; exact ho3
      have hb3 : Below w.heap.size w w3 := below_app ((hb.alloc hszr _).alloc (by simp; omega) _) hg3 (by simp; omega) (fun a ha => (ho.lt a ha).1)
      clear ho3 hg3
      go_roundw
      case rel => exact ⟨k + 1, A3, c3, rfl, by go_num, by omega, Ho3, hb3⟩
      case measure => simp [intOf]; omega
    · obtain rfl : k = yn := by omega
      have HT := Lib.hid (show L.take k = L by rw [List.take_of_length_le (by rw [Hly.out]; omega)])
      rw [HT.out] at ho
      have hpos : 0 < nr + k := by
        have h1 := ho.len
        rw [List.length_map, List.length_append, List.length_map] at h1
        have h2 := HLen.out.2
        rw [(allR_perm d).length_eq, ← (all_perm d).length_eq, List.length_append, List.length_map, HG.out, HL.out] at h2
        omega
      obtain ⟨g, rfl, hgB, hgl⟩ := ho.form hpos
      have HS := Lib.hid (fun W h => sortA_any w.heap.size g (nr + k) c1 (G ++ L.map fun x : Int × Int => (x.1, x.2, (0 : Nat))) W h (by omega))
      go_wp2_with (go_at_call 74; refine (HS.out _ ho).mono ?_; rintro e w2 ⟨rfl, l', HP, HR, ho2, hg2⟩)
      obtain rfl : l' = d.allR := HU.out l' HP.out HR.out
      have hb2 : Below w.heap.size w w2 := hb.grown hg2 hszr (fun q hq => by injection hq with hq; subst hq; exact hgB)
      have hn2 : nr + k ≤ 1114112 := by have h1 := ho2.len; rw [List.length_map] at h1; have := HLen.out.1; omega
      go_ret
      exact ⟨_, _, _, rfl, hpos, hn2, ho2, hb2⟩
end Go.Proofs.YtejccafolfeabaaGreatDoor

/-
  PLAIN: the program's and the document's ways over the ranges of two databases. No walk.
-/
namespace Go.Proofs.YtejccafolfeabaaGreatDoor

/-- As Tile, where the first range may have been begun. -/
def TileW : Int → List (Int × Int × Nat) → Prop
  | m, [] => m = 1114112
  | m, x :: r => x.1 ≤ m ∧ m ≤ x.2.1 ∧ Tile (x.2.1 + 1) r
theorem tileW_of {m : Int} {X : List (Int × Int × Nat)} (h : Tile m X) : TileW m X := by
  cases X with
  | nil => exact h
  | cons x r => exact ⟨by have := h.1; omega, h.2.1, h.2.2⟩
theorem tileW_same {m h : Int} {x : Int × Int × Nat} {r : List (Int × Int × Nat)} (t : TileW m (x :: r)) (e : x.2.1 = h) : TileW (h + 1) r := by
  subst e; exact tileW_of t.2.2
theorem tileW_rest {m h : Int} {x : Int × Int × Nat} {r : List (Int × Int × Nat)} (t : TileW m (x :: r)) (h1 : m ≤ h) (h2 : h < x.2.1) : TileW (h + 1) (x :: r) :=
  ⟨by have := t.1; omega, by omega, t.2.2⟩
theorem tileW_ne {m : Int} {x : Int × Int × Nat} {r : List (Int × Int × Nat)} (t : TileW m (x :: r)) (hb : x.2.1 ≤ 1114111) : m ≤ 1114111 := by have := t.2.1; omega
/-- How far the pairs have come: all runes below m. -/
structure PairsAt (a b : DbP) (m : Int) (X Y : List (Int × Int × Nat)) (T : List (Nat × Nat)) (S : List (List (Int × Int))) : Prop where
  lo : 0 ≤ m
  x : TileW m X
  y : TileW m Y
  xs : X <:+ a.allR
  ys : Y <:+ b.allR
  two : T = dedN (pairG a b) m.toNat
  len : S.length = T.length
  mem : ∀ (k : Nat) (p : Nat × Nat) (s : List (Int × Int)), T[k]? = some p → S[k]? = some s → ∀ r, memR s r ↔ 0 ≤ r ∧ r < m ∧ pairG a b r = p
  cnt : ∀ s ∈ S, s.length + X.length + Y.length ≤ a.allR.length + b.allR.length
  tc : T.length + X.length + Y.length ≤ 1 + a.allR.length + b.allR.length
theorem pairs_first {a b : DbP} (ha : a.Ok) (aa : Apart a.sets) (hb : b.Ok) (ab : Apart b.sets) : PairsAt a b 0 a.allR b.allR [(0, 0)] [[]] where
  lo := by omega
  x := tileW_of (allR_tile ha aa)
  y := tileW_of (allR_tile hb ab)
  xs := List.suffix_refl _
  ys := List.suffix_refl _
  two := rfl
  len := rfl
  mem := fun k p s h1 h2 r => by
    match k, h1, h2 with
    | 0, h1, h2 =>
      simp at h1 h2; subst h1; subst h2
      exact ⟨fun h => absurd h (memR_nil r), fun h => by omega⟩
    | k + 1, h1, h2 => simp at h1
  cnt := fun s hs => by simp at hs; subst hs; simp
  tc := by simp
theorem memR_snoc {l : List (Int × Int)} {x : Int × Int} {r : Int} : memR (l ++ [x]) r ↔ memR l r ∨ (x.1 ≤ r ∧ r ≤ x.2) := by
  unfold memR
  constructor
  · rintro ⟨y, hy, h⟩
    rcases List.mem_append.1 hy with hy | hy
    · exact .inl ⟨y, hy, h⟩
    · rw [List.mem_singleton] at hy; subst hy; exact .inr h
  · rintro (⟨y, hy, h⟩ | h)
    · exact ⟨y, List.mem_append.2 (.inl hy), h⟩
    · exact ⟨x, by simp, h⟩
/-- The next stretch: its pair and where it ends. -/
structure NextAt (a b : DbP) (m h : Int) (p : Nat × Nat) : Prop where
  mh : m ≤ h
  top : h ≤ 1114111
  all : ∀ r, m ≤ r → r ≤ h → pairG a b r = p
theorem pairs_next {a b : DbP} (ha : a.Ok) (aa : Apart a.sets) (hb : b.Ok) (ab : Apart b.sets) {m : Int} {x y : Int × Int × Nat} {X Y : List (Int × Int × Nat)} {T : List (Nat × Nat)} {S : List (List (Int × Int))} (hp : PairsAt a b m (x :: X) (y :: Y) T S) : NextAt a b m (min x.2.1 y.2.1) (x.2.2, y.2.2) := by
  have hx : x ∈ a.allR := hp.xs.subset (by simp)
  have hy : y ∈ b.allR := hp.ys.subset (by simp)
  have bx := allR_bd ha x hx
  have tx := hp.x; have ty := hp.y
  refine ⟨by have := tx.2.1; have := ty.2.1; omega, by omega, fun r h1 h2 => ?_⟩
  have e1 := allR_get ha aa hx (r := r) (by have := tx.1; omega) (by omega)
  have e2 := allR_get hb ab hy (r := r) (by have := ty.1; omega) (by omega)
  unfold pairG; rw [e1, e2]
theorem pairs_xs {a : DbP} {m h : Int} {x : Int × Int × Nat} {X : List (Int × Int × Nat)} (t : TileW m (x :: X)) (s : (x :: X) <:+ a.allR) (h1 : m ≤ h) (h2 : h ≤ x.2.1) : TileW (h + 1) (if x.2.1 = h then X else x :: X) ∧ (if x.2.1 = h then X else x :: X) <:+ a.allR := by
  by_cases e : x.2.1 = h
  · rw [if_pos e]; exact ⟨tileW_same t e, (List.suffix_cons _ _).trans s⟩
  · rw [if_neg e]; exact ⟨tileW_rest t h1 (by omega), s⟩
theorem two_next {a b : DbP} {m h : Int} {p : Nat × Nat} (h0 : 0 ≤ m) (n : NextAt a b m h p) : dedN (pairG a b) (h + 1).toNat = ded1 (dedN (pairG a b) m.toNat) p := by
  have := n.mh; have := n.top
  refine dedN_span (by omega) fun k h1 h2 => n.all _ (by omega) (by omega)
/-- A stretch more of a pair that is there. -/
theorem pairs_old {a b : DbP} {m h : Int} {x y : Int × Int × Nat} {X Y : List (Int × Int × Nat)} {T : List (Nat × Nat)} {S : List (List (Int × Int))} {i : Nat} {s : List (Int × Int)} (hp : PairsAt a b m (x :: X) (y :: Y) T S) (n : NextAt a b m h (x.2.2, y.2.2)) (hh : h = min x.2.1 y.2.1)
    (hi : T[i]? = some (x.2.2, y.2.2)) (hs : S[i]? = some s) : PairsAt a b (h + 1) (if x.2.1 = h then X else x :: X) (if y.2.1 = h then Y else y :: Y) T (S.set i (s ++ [(m, h)])) := by
  have hmh := n.mh
  have px := pairs_xs (h := h) hp.x hp.xs hmh (by omega)
  have py := pairs_xs (h := h) hp.y hp.ys hmh (by omega)
  have hmem : (x.2.2, y.2.2) ∈ T := List.mem_of_getElem? hi
  have hlt : i < S.length := (List.getElem?_eq_some_iff.1 hs).1
  have hxl : (if x.2.1 = h then X else x :: X).length + (if y.2.1 = h then Y else y :: Y).length + 1 ≤ X.length + Y.length + 2 := by
    rcases (by omega : x.2.1 = h ∨ y.2.1 = h) with e | e
    · rw [if_pos e]; split <;> (try simp only [List.length_cons]) <;> omega
    · rw [if_pos e]; split <;> (try simp only [List.length_cons]) <;> omega
  have htc := hp.tc
  simp only [List.length_cons] at htc
  refine ⟨by have := hp.lo; omega, px.1, py.1, px.2, py.2, ?_, by rw [List.length_set]; exact hp.len, ?_, ?_, by omega⟩
  · rw [two_next hp.lo n, ← hp.two, ded1_in hmem]
  · intro k q t hk ht r
    by_cases hki : k = i
    · subst hki
      rw [List.getElem?_set_self hlt] at ht
      injection ht with ht; subst ht
      rw [hi] at hk; injection hk with hk; subst hk
      rw [memR_snoc, hp.mem k _ s hi hs r]
      constructor
      · rintro (⟨h1, h2, h3⟩ | ⟨h1, h2⟩)
        · exact ⟨h1, by omega, h3⟩
        · simp only at h1 h2; exact ⟨by have := hp.lo; omega, by omega, n.all r h1 h2⟩
      · rintro ⟨h1, h2, h3⟩
        rcases Int.lt_or_le r m with h4 | h4
        · exact .inl ⟨h1, h4, h3⟩
        · exact .inr ⟨h4, by simp only; omega⟩
    · rw [List.getElem?_set_ne (Ne.symm hki)] at ht
      rw [hp.mem k q t hk ht r]
      constructor
      · rintro ⟨h1, h2, h3⟩; exact ⟨h1, by omega, h3⟩
      · rintro ⟨h1, h2, h3⟩
        refine ⟨h1, ?_, h3⟩
        rcases Int.lt_or_le r m with h4 | h4
        · exact h4
        · exfalso
          have e := n.all r h4 (by omega)
          rw [h3] at e; subst e
          have hnd : T.Nodup := by rw [hp.two]; exact dedN_nodup _
          exact hki ((List.getElem?_inj (List.getElem?_eq_some_iff.1 hk).1 hnd).1 (hk.trans hi.symm))
  · intro t ht
    have hxl : (if x.2.1 = h then X else x :: X).length + (if y.2.1 = h then Y else y :: Y).length + 1 ≤ X.length + Y.length + 2 := by
      rcases (by omega : x.2.1 = h ∨ y.2.1 = h) with e | e
      · rw [if_pos e]; split <;> (try simp only [List.length_cons]) <;> omega
      · rw [if_pos e]; split <;> (try simp only [List.length_cons]) <;> omega
    rcases List.mem_or_eq_of_mem_set ht with h1 | h1
    · have := hp.cnt t h1; simp only [List.length_cons] at this; omega
    · subst h1
      have := hp.cnt s (List.mem_of_getElem? hs); simp only [List.length_cons] at this
      rw [List.length_append, List.length_singleton]; omega
/-- A new pair. -/
theorem pairs_new {a b : DbP} {m h : Int} {x y : Int × Int × Nat} {X Y : List (Int × Int × Nat)} {T : List (Nat × Nat)} {S : List (List (Int × Int))} (hp : PairsAt a b m (x :: X) (y :: Y) T S) (n : NextAt a b m h (x.2.2, y.2.2)) (hh : h = min x.2.1 y.2.1)
    (hi : (x.2.2, y.2.2) ∉ T) : PairsAt a b (h + 1) (if x.2.1 = h then X else x :: X) (if y.2.1 = h then Y else y :: Y) (T ++ [(x.2.2, y.2.2)]) (S ++ [[(m, h)]]) := by
  have hmh := n.mh
  have px := pairs_xs (h := h) hp.x hp.xs hmh (by omega)
  have py := pairs_xs (h := h) hp.y hp.ys hmh (by omega)
  have hxl : (if x.2.1 = h then X else x :: X).length + (if y.2.1 = h then Y else y :: Y).length + 1 ≤ X.length + Y.length + 2 := by
    rcases (by omega : x.2.1 = h ∨ y.2.1 = h) with e | e
    · rw [if_pos e]; split <;> (try simp only [List.length_cons]) <;> omega
    · rw [if_pos e]; split <;> (try simp only [List.length_cons]) <;> omega
  have htc := hp.tc
  simp only [List.length_cons] at htc
  refine ⟨by have := hp.lo; omega, px.1, py.1, px.2, py.2, ?_, by simp [hp.len], ?_, ?_, by rw [List.length_append, List.length_singleton]; omega⟩
  · rw [two_next hp.lo n, ← hp.two]; unfold ded1; rw [if_neg hi]
  · intro k q t hk ht r
    rcases Nat.lt_or_ge k T.length with hkl | hkl
    · rw [List.getElem?_append_left hkl] at hk
      rw [List.getElem?_append_left (by rw [hp.len]; exact hkl)] at ht
      rw [hp.mem k q t hk ht r]
      constructor
      · rintro ⟨h1, h2, h3⟩; exact ⟨h1, by omega, h3⟩
      · rintro ⟨h1, h2, h3⟩
        refine ⟨h1, ?_, h3⟩
        rcases Int.lt_or_le r m with h4 | h4
        · exact h4
        · exfalso
          have e := n.all r h4 (by omega)
          rw [h3] at e; subst e
          exact hi (List.mem_of_getElem? hk)
    · have hke : k = T.length := by
        have := (List.getElem?_eq_some_iff.1 hk).1
        rw [List.length_append, List.length_singleton] at this; omega
      subst hke
      rw [List.getElem?_append_right (Nat.le_refl _), Nat.sub_self] at hk
      rw [List.getElem?_append_right (by rw [hp.len]; exact Nat.le_refl _), hp.len, Nat.sub_self] at ht
      simp at hk ht; subst hk; subst ht
      have e1 : memR [(m, h)] r ↔ m ≤ r ∧ r ≤ h := by
        have := memR_snoc (l := []) (x := (m, h)) (r := r)
        rw [List.nil_append] at this; rw [this]
        exact ⟨fun h => h.elim (fun h => absurd h (memR_nil r)) id, .inr⟩
      rw [e1]
      constructor
      · rintro ⟨h1, h2⟩; exact ⟨by have := hp.lo; omega, by omega, n.all r h1 h2⟩
      · rintro ⟨h1, h2, h3⟩
        refine ⟨?_, by omega⟩
        rcases Int.lt_or_le r m with h4 | h4
        · exfalso
          refine hi ?_
          rw [hp.two]
          exact mem_dedN.2 (.inr ⟨r.toNat, by omega, by rw [Int.toNat_of_nonneg h1]; exact h3⟩)
        · exact h4
  · intro t ht
    have hxl : (if x.2.1 = h then X else x :: X).length + (if y.2.1 = h then Y else y :: Y).length + 1 ≤ X.length + Y.length + 2 := by
      rcases (by omega : x.2.1 = h ∨ y.2.1 = h) with e | e
      · rw [if_pos e]; split <;> (try simp only [List.length_cons]) <;> omega
      · rw [if_pos e]; split <;> (try simp only [List.length_cons]) <;> omega
    rcases List.mem_append.1 ht with h1 | h1
    · have := hp.cnt t h1; simp only [List.length_cons] at this; omega
    · simp at h1; subst h1
      have h1 := hp.xs.length_le; have h2 := hp.ys.length_le
      simp only [List.length_cons, List.length_nil] at *; omega
/-- The end: all pairs, and the runes of each. -/
theorem pairs_end {a b : DbP} {m : Int} {X Y : List (Int × Int × Nat)} {T : List (Nat × Nat)} {S : List (List (Int × Int))} (hp : PairsAt a b m X Y T S) (he : X = [] ∨ Y = []) : T = twoP a b ∧ m = 1114112 := by
  have hm : m = 1114112 := by
    rcases he with rfl | rfl
    · exact hp.x
    · exact hp.y
  exact ⟨by rw [hp.two, hm]; rfl, hm⟩
theorem pairs_sets {a b : DbP} (ha : a.Ok) (aa : Apart a.sets) (hb : b.Ok) (ab : Apart b.sets) {m : Int} {X Y : List (Int × Int × Nat)} {T : List (Nat × Nat)} {S : List (List (Int × Int))} (hp : PairsAt a b m X Y T S) (he : X = [] ∨ Y = []) {k : Nat} {p : Nat × Nat} {s : List (Int × Int)} (hk : (twoP a b)[k]? = some p) (hs : S[k]? = some s) : normR s = setP a b p := by
  obtain ⟨hT, hm⟩ := pairs_end hp he
  have l := two_lt ha hb (List.mem_of_getElem? hk)
  refine setP_of ha aa hb ab l.1 l.2 fun r h0 h1 => ?_
  rw [hp.mem k p s (by rw [hT]; exact hk) hs r]
  exact ⟨fun h => h.2.2, fun h => ⟨h0, by omega, h⟩⟩
theorem pairs_len {a b : DbP} (ha : a.Ok) (aa : Apart a.sets) (hb : b.Ok) (ab : Apart b.sets) {m : Int} {X Y : List (Int × Int × Nat)} {T : List (Nat × Nat)} {S : List (List (Int × Int))} (hp : PairsAt a b m X Y T S) {s : List (Int × Int)} (hs : s ∈ S) : s.length ≤ 2228224 := by
  have h1 := hp.cnt s hs
  have h2 := allR_len ha aa; have h3 := allR_len hb ab
  omega
/-- How many pairs at most. -/
theorem pairs_few {a b : DbP} (ha : a.Ok) (aa : Apart a.sets) (hb : b.Ok) (ab : Apart b.sets) {m : Int} {X Y : List (Int × Int × Nat)} {T : List (Nat × Nat)} {S : List (List (Int × Int))} (hp : PairsAt a b m X Y T S) : T.length ≤ 2228225 := by
  have h1 := hp.tc
  have h2 := allR_len ha aa; have h3 := allR_len hb ab
  omega

/- The document's way. -/
def begL (S : List (List (Int × Int))) : List Int := (S.map fun s => s.map (·.1)).flatten
theorem begL_mem {S : List (List (Int × Int))} {v : Int} : v ∈ begL S ↔ ∃ s ∈ S, ∃ x ∈ s, x.1 = v := by
  unfold begL
  simp only [List.mem_flatten, List.mem_map]
  constructor
  · rintro ⟨l, ⟨s, hs, rfl⟩, hv⟩
    obtain ⟨x, hx, rfl⟩ := List.mem_map.1 hv
    exact ⟨s, hs, x, hx, rfl⟩
  · rintro ⟨s, hs, x, hx, rfl⟩
    exact ⟨_, ⟨s, hs, rfl⟩, List.mem_map.2 ⟨x, hx, rfl⟩⟩
theorem begL_len : ∀ (S : List (List (Int × Int))), (begL S).length = lenS S
  | [] => rfl
  | s :: S => by
    have := begL_len S
    unfold begL at this ⊢
    rw [List.map_cons, List.flatten_cons, List.length_append, this, List.length_map]; rfl
theorem begL_in {S : List (List (Int × Int))} {c : Nat} {s : List (Int × Int)} (h : S[c]? = some s) : begL (S.take (c + 1)) = begL (S.take c) ++ s.map (·.1) := by
  unfold begL
  rw [List.take_add_one, h]; simp
theorem mem_allE_beg {d : DbP} {v : Int} : v ∈ begL d.full ↔ ∃ x ∈ d.allE, x.1 = v := by
  rw [begL_mem]
  constructor
  · rintro ⟨s, hs, x, hx, rfl⟩
    obtain ⟨k, hk, rfl⟩ := List.getElem_of_mem hs
    exact ⟨(x.1, x.2, 0 + k), mem_entG.2 ⟨k, _, List.getElem?_eq_getElem hk, hx, rfl⟩, rfl⟩
  · rintro ⟨x, hx, rfl⟩
    obtain ⟨k, s, h1, h2, h3⟩ := mem_entG.1 hx
    exact ⟨s, List.mem_of_getElem? h1, _, h2, rfl⟩
/-- The pairs at all beginnings, in order. -/
theorem begs_two {a b : DbP} (ha : a.Ok) (aa : Apart a.sets) (hb : b.Ok) (ab : Apart b.sets) {L : List Int} (hp : L.Perm (begL a.full ++ begL b.full)) (hr : L.Pairwise (· ≤ ·)) : (L.map (pairG a b)).foldl ded1 [(0, 0)] = twoP a b := by
  have hm : ∀ v, v ∈ L ↔ (∃ x ∈ a.allE, x.1 = v) ∨ ∃ x ∈ b.allE, x.1 = v := fun v => by
    rw [hp.mem_iff, List.mem_append, mem_allE_beg, mem_allE_beg]
  have hbd : ∀ v ∈ L, 0 ≤ v ∧ v ≤ 1114111 := fun v hv => by
    rcases (hm v).1 hv with ⟨x, hx, rfl⟩ | ⟨x, hx, rfl⟩
    · have := allE_bd ha x hx; omega
    · have := allE_bd hb x hx; omega
  have h0 : (0 : Int) ∈ L := by
    refine (hm 0).2 (.inl ?_)
    have ht := allR_tile ha aa
    cases hq : a.allR with
    | nil => rw [hq] at ht; cases ht
    | cons x r =>
      rw [hq] at ht
      exact ⟨x, (allR_perm a).mem_iff.1 (by rw [hq]; simp), ht.1⟩
  cases L with
  | nil => simp at h0
  | cons u L =>
    have hu : u = 0 := by
      rw [List.pairwise_cons] at hr
      have := hbd u (by simp)
      rcases List.mem_cons.1 h0 with h | h
      · exact h.symm
      · have := hr.1 0 h; omega
    subst hu
    rw [List.map_cons, List.foldl_cons]
    have e : ded1 [(0, 0)] (pairG a b 0) = dedN (pairG a b) ((0 : Int).toNat + 1) := rfl
    rw [e]
    refine ded_fold (B := fun s => (∃ x ∈ a.allE, x.1 = s) ∨ ∃ x ∈ b.allE, x.1 = s) (fun p r h1 h2 h3 hn => ?_) L 0 (by omega) (by omega) hr (fun s hs => (hbd s (by simp [hs])).2) fun s hs hlt => ?_
    · unfold pairG
      rw [get_same ha aa h1 h2 h3 (fun x hx => hn x.1 (.inl ⟨x, hx, rfl⟩)), get_same hb ab h1 h2 h3 (fun x hx => hn x.1 (.inr ⟨x, hx, rfl⟩))]
    · rcases List.mem_cons.1 ((hm s).2 hs) with h | h
      · omega
      · exact h
/- Insertion, as the document sorts. -/
theorem perm_swap_at {α : Type} {l : List α} {k : Nat} {x y : α} (h1 : l[k]? = some x) (h2 : l[k + 1]? = some y) : ((l.set k y).set (k + 1) x).Perm l := by
  obtain ⟨a1, e1⟩ := List.getElem?_eq_some_iff.1 h1
  obtain ⟨a2, e2⟩ := List.getElem?_eq_some_iff.1 h2
  have hd : l = l.take k ++ x :: y :: l.drop (k + 2) := by
    rw [← e1, ← e2, ← List.drop_eq_getElem_cons a2, ← List.drop_eq_getElem_cons a1, List.take_append_drop]
  have hk : (l.take k).length = k := by rw [List.length_take]; omega
  generalize l.take k = A at hd hk
  generalize l.drop (k + 2) = B at hd
  subst hd; subst hk
  have e : ((A ++ x :: y :: B).set A.length y).set (A.length + 1) x = A ++ y :: x :: B := by
    rw [List.set_append_right _ _ (Nat.le_refl _), Nat.sub_self, List.set_cons_zero, List.set_append_right _ _ (by omega), show A.length + 1 - A.length = 1 by omega]; rfl
  rw [e]
  exact (List.Perm.swap x y B).append_left A
/-- While one sinks: all up to i rise, but that the one at k is not yet looked at. -/
def SinkAt (l : List Int) (i k : Nat) : Prop := k ≤ i ∧ i < l.length ∧ (∀ (p q : Nat) (u v : Int), p < q → q ≤ i → q ≠ k → l[p]? = some u → l[q]? = some v → u ≤ v ∨ p = k) ∧ (∀ (q : Nat) (u v : Int), k < q → q ≤ i → l[k]? = some u → l[q]? = some v → u ≤ v)
def RiseTo (l : List Int) (i : Nat) : Prop := ∀ (p q : Nat) (u v : Int), p < q → q < i → l[p]? = some u → l[q]? = some v → u ≤ v
theorem sink_first {l : List Int} {i : Nat} (h : RiseTo l i) (hi : i < l.length) : SinkAt l i i :=
  ⟨Nat.le_refl _, hi, fun p q u v h1 h2 h3 hu hv => .inl (h p q u v h1 (by omega) hu hv), fun q u v h1 h2 => by omega⟩
theorem sink_end {l : List Int} {i k : Nat} (h : SinkAt l i k) (hk : k = 0 ∨ ∃ u v, l[k - 1]? = some u ∧ l[k]? = some v ∧ u ≤ v) : RiseTo l (i + 1) := by
  obtain ⟨h1, h2, h3, h4⟩ := h
  intro p q u v hpq hq hu hv
  by_cases hpk : p = k
  · subst hpk; exact h4 q u v hpq (by omega) hu hv
  · by_cases hqk : q = k
    · subst hqk
      rcases hk with h0 | ⟨u', v', hu', hv', hle⟩
      · omega
      · rw [hv] at hv'; injection hv' with hv'; subst hv'
        by_cases hp1 : p = q - 1
        · subst hp1; rw [hu] at hu'; injection hu' with hu'; subst hu'; exact hle
        · rcases h3 p (q - 1) u u' (by omega) (by omega) (by omega) hu hu' with h | h <;> omega
    · rcases h3 p q u v hpq (by omega) hqk hu hv with h | h
      · exact h
      · exact absurd h hpk
theorem sink_step {l : List Int} {i k : Nat} {x y : Int} (h : SinkAt l i (k + 1)) (h1 : l[k]? = some x) (h2 : l[k + 1]? = some y) (hgt : y < x) : SinkAt ((l.set k y).set (k + 1) x) i k := by
  obtain ⟨g1, g2, g3, g4⟩ := h
  have a1 := (List.getElem?_eq_some_iff.1 h1).1
  have a2 := (List.getElem?_eq_some_iff.1 h2).1
  have e0 : ((l.set k y).set (k + 1) x)[k]? = some y := by rw [List.getElem?_set_ne (by omega), List.getElem?_set_self a1]
  have e1 : ((l.set k y).set (k + 1) x)[k + 1]? = some x := by rw [List.getElem?_set_self (by rw [List.length_set]; exact a2)]
  have e2 : ∀ j, j ≠ k → j ≠ k + 1 → ((l.set k y).set (k + 1) x)[j]? = l[j]? := fun j n1 n2 => by rw [List.getElem?_set_ne (Ne.symm n2), List.getElem?_set_ne (Ne.symm n1)]
  refine ⟨by omega, by simpa using g2, fun p q u v hpq hq hqk hu hv => ?_, fun q u v hkq hq hu hv => ?_⟩
  · by_cases hpk : p = k
    · exact .inr hpk
    · refine .inl ?_
      by_cases hq1 : q = k + 1
      · subst hq1
        rw [e1] at hv; injection hv with hv; subst hv
        rw [e2 p hpk (by omega)] at hu
        rcases g3 p k u x (by omega) (by omega) (by omega) hu h1 with h | h <;> omega
      · rw [e2 q hqk hq1] at hv
        by_cases hp1 : p = k + 1
        · subst hp1
          rw [e1] at hu; injection hu with hu; subst hu
          rcases g3 k q x v (by omega) hq (by omega) h1 hv with h | h <;> omega
        · rw [e2 p hpk hp1] at hu
          rcases g3 p q u v hpq hq (by omega) hu hv with h | h <;> omega
  · rw [e0] at hu; injection hu with hu; subst hu
    by_cases hq1 : q = k + 1
    · subst hq1; rw [e1] at hv; injection hv with hv; omega
    · rw [e2 q (by omega) hq1] at hv
      exact g4 q y v (by omega) hq h2 hv
theorem rise_all {l : List Int} (h : RiseTo l l.length) : l.Pairwise (· ≤ ·) := by
  rw [List.pairwise_iff_getElem]
  intro i j hi hj hij
  exact h i j _ _ hij hj (List.getElem?_eq_getElem hi) (List.getElem?_eq_getElem hj)
theorem rise_one (l : List Int) : RiseTo l 1 := fun p q u v h1 h2 => by omega
/- Names that stand twice. -/
theorem idx_nodup {N : List (List UInt8)} : N.Nodup ↔ ∀ (i : Nat) (n : List UInt8), N[i]? = some n → N.idxOf? n = some i := by
  constructor
  · intro hn i n hi
    cases hq : N.idxOf? n with
    | none => exact absurd (List.mem_of_getElem? hi) (idxOf?_none hq)
    | some j =>
      have hj : N[j]? = some n := idxOf?_some hq
      rw [(List.getElem?_inj (List.getElem?_eq_some_iff.1 hj).1 hn).1 (hj.trans hi.symm)]
  · intro h
    rw [List.Nodup, List.pairwise_iff_getElem]
    intro i j hi hj hij e
    have h1 := h i _ (List.getElem?_eq_getElem hi)
    have h2 := h j _ (List.getElem?_eq_getElem hj)
    rw [e, h2] at h1
    injection h1 with h1; omega
end Go.Proofs.YtejccafolfeabaaGreatDoor

/-
  WORDS FOR MEMORY, props: rows of ranges that lie apart, one of them longer; pairs of classes. No program's walk.
-/
namespace Go.Proofs.YtejccafolfeabaaGreatDoor
open Go.RowKit Go.Maps

def encTwo (p : Nat × Nat) : List Value := [.int .i64 (p.1 : Int), .int .i64 (p.2 : Int)]
theorem encTwo_ok (l : List (Nat × Nat)) : ∀ y ∈ l.map encTwo, y.length = 2 ∧ ∀ u ∈ y, u.oneCell' = true := by
  intro y hy; obtain ⟨r, _, rfl⟩ := List.mem_map.1 hy
  exact ⟨rfl, by simp [encTwo, Value.oneCell']⟩
theorem Own.cell2 {w : World} {base : Nat} {e : TypeId} {g n c k : Nat} {l : List (Nat × Nat)} {x : Nat × Nat} (h : Own w base e 2 (some ⟨g, 0, none⟩) n c (l.map encTwo)) (hk : l[k]? = some x) :
    w.cell? ⟨g, k * 2, none⟩ = some (.int .i64 (x.1 : Int)) ∧ w.cell? ⟨g, k * 2 + 1, none⟩ = some (.int .i64 (x.2 : Int)) := by
  have hx : (l.map encTwo)[k]? = some (encTwo x) := by simp [hk]
  exact ⟨h.cell (j := 0) hx rfl, h.cell (j := 1) hx rfl⟩
theorem Rd.at2 {w : World} {A : Option Addr} {l : List (Nat × Nat)} {k : Nat} {x : Nat × Nat} (h : Rd w 2 A (l.map encTwo)) (hk : l[k]? = some x) : ∃ b off, A = some ⟨b, off, none⟩ ∧ w.cell? ⟨b, off + k * 2, none⟩ = some (.int .i64 (x.1 : Int)) ∧ w.cell? ⟨b, off + k * 2 + 1, none⟩ = some (.int .i64 (x.2 : Int)) := by
  obtain ⟨b, off, rfl, hc⟩ := h (by intro e; cases l with | nil => simp at hk | cons _ _ => simp at e)
  have h0 := hc k 0 (encTwo x) (.int .i64 (x.1 : Int)) (by simp [hk]) rfl
  have h1 := hc k 1 (encTwo x) (.int .i64 (x.2 : Int)) (by simp [hk]) rfl
  exact ⟨b, off, rfl, by simpa using h0, by simpa using h1⟩
/-- Rows that lie apart. -/
def Split (xs : List (Option Addr × Nat × Nat)) : Prop := ∀ (i j : Nat) (x y : Option Addr × Nat × Nat) (a b : Addr), i ≠ j → xs[i]? = some x → xs[j]? = some y → x.1 = some a → y.1 = some b → a.block ≠ b.block
theorem split_one : Split [(none, 0, 0)] := fun i j x y a b hn hx hy ha hb => by
  match i, hx with
  | 0, hx => simp at hx; subst hx; cases ha
  | i + 1, hx => simp at hx
theorem split_snoc {xs : List (Option Addr × Nat × Nat)} (h : Split xs) : Split (xs ++ [(none, 0, 0)]) := fun i j x y a b hn hx hy ha hb => by
  have key : ∀ (k : Nat) (z : Option Addr × Nat × Nat) (c : Addr), (xs ++ [((none : Option Addr), 0, 0)])[k]? = some z → z.1 = some c → xs[k]? = some z := fun k z c hz hc => by
    rcases Nat.lt_or_ge k xs.length with hlt | hge
    · rwa [List.getElem?_append_left hlt] at hz
    · rw [List.getElem?_append_right hge] at hz
      cases hq : k - xs.length with
      | zero => rw [hq] at hz; simp at hz; subst hz; cases hc
      | succ q => rw [hq] at hz; simp at hz
  exact h i j x y a b hn (key i x a hx ha) (key j y b hy hb) ha hb
theorem split_set {xs : List (Option Addr × Nat × Nat)} {i : Nat} {x y : Option Addr × Nat × Nat} (h : Split xs) (hx : xs[i]? = some x) (hy : ∀ b, y.1 = some b → (x.1 = some b ∨ ∀ (k : Nat) (z : Option Addr × Nat × Nat) (a : Addr), xs[k]? = some z → z.1 = some a → a.block ≠ b.block)) : Split (xs.set i y) := fun p q u v a b hn hu hv ha hb => by
  have hlt : i < xs.length := (List.getElem?_eq_some_iff.1 hx).1
  by_cases hp : p = i
  · subst hp
    rw [List.getElem?_set_self hlt] at hu; injection hu with hu; subst hu
    rw [List.getElem?_set_ne hn] at hv
    rcases hy a ha with e | e
    · exact h p q x v a b hn hx hv e hb
    · exact fun e' => e q v b hv hb e'.symm
  · rw [List.getElem?_set_ne (Ne.symm hp)] at hu
    by_cases hq : q = i
    · subst hq
      rw [List.getElem?_set_self hlt] at hv; injection hv with hv; subst hv
      rcases hy b hb with e | e
      · exact h p q u x a b hn hu hx ha e
      · exact e p u a hu ha
    · rw [List.getElem?_set_ne (Ne.symm hq)] at hv
      exact h p q u v a b hn hu hv ha hb
section
variable {w w3 : World} {base : Nat} {xs : List (Option Addr × Nat × Nat)} {S : List (List (Int × Int))}
/-- One row longer, whether where it lay or elsewhere. -/
theorem Sets.longer {i c3 n3 : Nat} {A3 : Option Addr} {x : Option Addr × Nat × Nat} {s t : List (Int × Int)} (h : Sets w base xs S) (hs : Split xs) (hi : xs[i]? = some x) (hsi : S[i]? = some s)
    (ho3 : Own w3 base 80 2 A3 n3 c3 (t.map encR)) (hg : w.grownBy w3 (x.1.map (·.block))) (hA3 : A3 = x.1 ∨ ∃ z, A3 = some ⟨z, 0, none⟩ ∧ w.heap.size ≤ z) :
    Sets w3 base (xs.set i (A3, n3, c3)) (S.set i t) ∧ Split (xs.set i (A3, n3, c3)) := by
  have hlt : i < xs.length := (List.getElem?_eq_some_iff.1 hi).1
  refine ⟨⟨by simp [h.len], fun k y q hy hq => ?_⟩, split_set hs hi fun b hb => ?_⟩
  · by_cases hk : k = i
    · subst hk
      rw [List.getElem?_set_self hlt] at hy; injection hy with hy; subst hy
      rw [List.getElem?_set_self (by rw [← h.len]; exact hlt)] at hq; injection hq with hq; subst hq
      exact ho3
    · rw [List.getElem?_set_ne (Ne.symm hk)] at hy hq
      refine (h.own k y q hy hq).grown hg fun a ha e => ?_
      cases hx : x.1 with
      | none => rw [hx] at e; cases e
      | some b => rw [hx] at e; simp at e; exact hs k i y x a b hk hy hi ha hx e
  · rcases hA3 with e | ⟨z, e, hz⟩
    · exact .inl (e ▸ hb)
    · refine .inr fun k y a hy ha e' => ?_
      rw [e] at hb; injection hb with hb; subst hb
      obtain ⟨q, hq⟩ : ∃ q, S[k]? = some q := ⟨_, List.getElem?_eq_getElem (by rw [← h.len]; exact (List.getElem?_eq_some_iff.1 hy).1)⟩
      have := ((h.own k y q hy hq).lt a ha).2
      simp only at e'; omega
end
section
variable {w : World} {base p x : Nat} {An : Option Addr} {nn cn bm nm : Nat} {D : DataW Unit} {As : Option Addr} {ns cs : Nat} {xs : List (Option Addr × Nat × Nat)} {N : List (List UInt8)} {S : List (List (Int × Int))}
/-- A set more, made elsewhere. -/
theorem DbX.moreSetL {w3 : World} {o : Obj} {A3 : Option Addr} {c3 b' : Nat} {y : Option Addr × Nat × Nat} {l : List (Int × Int)} (h : DbX w base p x An nn cn bm nm D As ns cs xs N S) (hy : Own w b' 80 2 y.1 y.2.1 y.2.2 (l.map encR)) (hb' : base ≤ b') (ho3 : Own w3 base 37 1 A3 (ns + 1) c3 ((xs ++ [y]).map encSl))
    (hg3 : (w.alloc o).grownBy w3 (As.map (·.block))) (hA3 : A3 = As ∨ A3 = some ⟨(w.alloc o).heap.size, 0, none⟩) (hx : x < w.heap.size) (hB : base ≤ w.heap.size) :
    Blk w3 p 70 #[.slice An nn cn, .map (some bm), .slice As ns cs, .slice none 0 0] ∧ DbX (w3.setCell ⟨p, 2, none⟩ (.slice A3 (ns + 1) c3)) base p x An nn cn bm nm D A3 (ns + 1) c3 (xs ++ [y]) N (S ++ [l]) ∧
      KX base x w (w3.setCell ⟨p, 2, none⟩ (.slice A3 (ns + 1) c3)) := by
  obtain ⟨t1, t2, t3, t4, t5, t6⟩ := types_ne
  have hg := grown_alloc hg3
  have b3 : Blk w3 p 70 #[.slice An nn cn, .map (some bm), .slice As ns cs, .slice none 0 0] := h.blk.grown hg (fun e => by cases As with | none => cases e | some a => simp at e; exact h.hs.off h.blk t3 a rfl e.symm)
  have n3 : Own w3 base 9 1 An nn cn (N.map encNm) := h.hn.grown hg (fun a ha e => by cases As with | none => cases e | some b => simp at e; exact h.hn.apart h.hs t1 a b ha rfl e)
  have x3 : Sets w3 base xs S := h.hx.grown hg (fun g q e => own_not_R h.hs t5 g q e)
  have y3 := hy.grown hg (fun a ha e => by cases As with | none => cases e | some b => simp at e; exact h.hs.apart hy t5 b a rfl ha e.symm)
  have m3 := map_kept h.hm hg (fun e => by cases As with | none => cases e | some a => simp at e; exact h.hs.offMap h.hm a rfl e.symm)
  have hxA3 : ∀ a, A3 = some a → a.block ≠ x := fun a ha => by
    rcases hA3 with e | e
    · exact h.xs_ a (by rw [← e]; exact ha)
    · rw [e] at ha; injection ha with ha; subst ha; simp; omega
  refine ⟨b3, ⟨?_, h.pb, ?_, ?_, h.nle, h.bb, h.hD, ?_, ?_, h.xp, h.xb, h.xn, hxA3⟩, ?_⟩
  · have := b3.set_ 2 (.slice A3 (ns + 1) c3)
    simpa using this
  · exact n3.setCell (fun a ha => n3.off b3 t2 a ha) _
  · exact map_setCell m3 (fun e => b3.offMap m3 e.symm) _
  · exact ho3.setCell (fun a ha => ho3.off b3 t3 a ha) _
  · exact (x3.setCell (blk_not_R b3 t6) _).snoc ((y3.setCell (p := ⟨p, 2, none⟩) (fun a ha => y3.off b3 (Ne.symm t6) a ha) _).more hb')
  · refine (KX.grown hg hB (fun k hk => ?_)).trans (KX.setCell w3 h.pb (fun e => h.xp e.symm) _)
    cases As with
    | none => cases hk
    | some a => simp at hk; subst hk; exact ⟨(h.hs.lt a rfl).1, h.xs_ a rfl⟩
/-- The foreign block may be any that lies lower. -/
theorem DbX.low {x' : Nat} (h : DbX w base p x An nn cn bm nm D As ns cs xs N S) (hx : x' < base) : DbX w base p x' An nn cn bm nm D As ns cs xs N S :=
  ⟨h.blk, h.pb, h.hn, h.hm, h.nle, h.bb, h.hD, h.hs, h.hx, by have := h.pb; omega, by have := h.bb; omega, fun a ha => by have := (h.hn.lt a ha).1; omega, fun a ha => by have := (h.hs.lt a ha).1; omega⟩
end
/-- What pairs leaves. -/
def PairEnd (a b : DbP) (base : Nat) (e : Ending) (w' : World) : Prop :=
  ∃ (g1 n1 c1 g2 c2 : Nat) (xs : List (Option Addr × Nat × Nat)) (S : List (List (Int × Int))), e = .returned (.tuple #[.slice (some ⟨g1, 0, none⟩) n1 c1, .slice (some ⟨g2, 0, none⟩) n1 c2]) ∧ (twoP a b).length = n1 ∧ n1 ≤ 2228225 ∧
    Own w' base 104 2 (some ⟨g1, 0, none⟩) n1 c1 ((twoP a b).map encTwo) ∧ Own w' base 37 1 (some ⟨g2, 0, none⟩) n1 c2 (xs.map encSl) ∧ Sets w' base xs S ∧
    ∀ (k : Nat) (p : Nat × Nat) (s : List (Int × Int)), (twoP a b)[k]? = some p → S[k]? = some s → normR s = setP a b p ∧ s.length ≤ 2228224
end Go.Proofs.YtejccafolfeabaaGreatDoor

/-
  slices.Index of pairs, walked.
-/
namespace Go.Proofs.YtejccafolfeabaaGreatDoor
open Go.RowKit Go.Maps

set_option maxRecDepth 100000 in
theorem eqlTwo (a b a' b' : Int) (w : World) : (binOp .eql 104 (.agg #[.int .i64 a, .int .i64 b]) (.agg #[.int .i64 a', .int .i64 b'])).run Tryz.prog w = .ok (.bool (decide ((a, b) = (a', b')))) w := by
  have hS : Tryz.prog.underlying 104 = some (.struct (Tryz.prog.fieldsOf 104)) := by kernel_rfl
  have hp : Tryz.prog.stoodInHeld 104 = false := by kernel_rfl
  have u4 := Tryz.underlying3
  have a4 := Tryz.isAgg3
  have z4 := Tryz.sizeOf3
  rw [run_eql_struct, show (10000 : Nat) = 9999 + 1 from rfl, run_equalIn_agg w 9999 _ _ _ hS hp]
  simp only [Program.fieldsOf, Tryz.underlying104]
  go_simp
  by_cases h1 : a = a' <;> by_cases h2 : b = b' <;> simp [h1, h2]
theorem not_takeW {T : List (Nat × Nat)} {k : Nat} {p x : Nat × Nat} (h : p ∉ T.take k) (hx : T[k]? = some x) (hne : x ≠ p) : p ∉ T.take (k + 1) := by
  rw [List.take_add_one, hx]
  simp only [Option.toList_some, List.mem_append, List.mem_singleton]
  rintro (h1 | h1)
  · exact h h1
  · exact hne h1.symm
set_option maxRecDepth 100000 in
set_option maxHeartbeats 2000000 in
theorem lIndexTwo_any (A : Option Addr) (n c : Nat) (T : List (Nat × Nat)) (p : Nat × Nat) (w : World) (hA : Rd w 2 A (T.map encTwo)) (hl : T.length = n) (hn : n ≤ 4000000) :
    Calls Tryz.prog 92 #[.slice A n c, .agg #[.int .i64 p.1, .int .i64 p.2]] w fun e w' => ∃ z : Int, e = .returned (.int .i64 z) ∧ ((∃ i : Nat, z = i ∧ T[i]? = some p) ∨ (z = -1 ∧ p ∉ T)) ∧ Below w.heap.size w w' := by
  have Hl := Lib.hid hl
  clear hl
  go_enter Tryz.func92, Tryz.ntmps92
  have hA0 := hA.alloc (.cells #[.int .i64 p.1, .int .i64 p.2] 104)
  have B0 := Blk.new w 104 #[.int .i64 p.1, .int .i64 p.2]
  have hb0 : Below w.heap.size w (w.alloc (.cells #[.int .i64 p.1, .int .i64 p.2] 104)) := (Below.refl _ _).alloc (Nat.le_refl _) _
  go_wp2_with fail
  generalize w.alloc (.cells #[.int .i64 p.1, .int .i64 p.2] 104) = w0 at hA0 B0 hb0 ⊢
  have c0 := B0.cell 0
  have c1 := B0.cell 1
  simp only [List.getElem?_toArray, List.getElem?_cons_zero, List.getElem?_cons_succ] at c0 c1
  go_loopw [8] (fun v wr => ∃ k m : Nat, v = .int .i64 k ∧ k ≤ n ∧ Hid (p ∉ T.take k) ∧ wr = w0.drewN m) (fun v _ => n - (intOf v).toNat)
  case atStart => exact ⟨0, 0, rfl, by omega, Lib.hid (by simp), rfl⟩
  case round =>
    obtain ⟨k, m, rfl, hk, HN, rfl⟩ := hrel
    by_cases hlt : k < n
    · obtain ⟨x, Hx⟩ : ∃ x, Hid (T[k]? = some x) := ⟨_, Lib.hid (List.getElem?_eq_getElem (show k < T.length by have := Hl.out; omega))⟩
      obtain ⟨b, off, rfl, h1, h2⟩ := hA0.at2 Hx.out
      by_cases hxp : x = p
      · subst hxp
        have hq := fun W => eqlTwo x.1 x.2 x.1 x.2 W
        simp only [decide_true] at hq
        go_wp2_with fail
        go_quiet (fail)
        go_wp2
        go_ret
        exact ⟨_, rfl, .inl ⟨k, rfl, Hx.out⟩, below_drewN (below_drewN hb0 _) _⟩
      · have hq := fun W => eqlTwo p.1 p.2 x.1 x.2 W
        rw [decide_eq_false (show ¬ ((p.1 : Int), (p.2 : Int)) = ((x.1 : Int), (x.2 : Int)) from fun e => hxp (Prod.ext (by have := congrArg Prod.fst e; simp only at this; omega) (by have := congrArg Prod.snd e; simp only at this; omega)))] at hq
        have HN' := Lib.hid (not_takeW HN.out Hx.out hxp)
        clear hxp
        go_wp2_with fail
        go_quiet (fail)
        go_wp2
        go_roundw
        case rel => exact ⟨k + 1, _, by go_num, by omega, HN', by first | rfl | exact World.drewN_drewN _ _ _⟩
        case measure => simp [intOf]; omega
    · have HE := Lib.hid (show p ∉ T by have := HN.out; rwa [List.take_of_length_le (by rw [Hl.out]; omega)] at this)
      go_wp2
      go_ret
      exact ⟨_, rfl, .inr ⟨rfl, HE.out⟩, below_drewN hb0 _⟩
end Go.Proofs.YtejccafolfeabaaGreatDoor

/-
  WORDS FOR MEMORY, props: what pairs holds: the pairs, their rows of ranges, the two rows that it reads. No program's walk.
-/
namespace Go.Proofs.YtejccafolfeabaaGreatDoor
open Go.RowKit Go.Maps

theorem types_two : (104 : TypeId) ≠ 37 ∧ (104 : TypeId) ≠ 80 ∧ (104 : TypeId) ≠ 82 ∧ (37 : TypeId) ≠ 80 ∧ (37 : TypeId) ≠ 82 ∧ (80 : TypeId) ≠ 82 := by decide
structure PairsW (w : World) (base g1 n1 c1 : Nat) (T : List (Nat × Nat)) (g2 c2 : Nat) (xs : List (Option Addr × Nat × Nat)) (S : List (List (Int × Int))) (gx nx cx : Nat) (X : List (Int × Int × Nat)) (gy ny cy : Nat) (Y : List (Int × Int × Nat)) : Prop where
  two : Own w base 104 2 (some ⟨g1, 0, none⟩) n1 c1 (T.map encTwo)
  row : Own w base 37 1 (some ⟨g2, 0, none⟩) n1 c2 (xs.map encSl)
  set : Sets w base xs S
  spl : Split xs
  x : Own w base 82 3 (some ⟨gx, 0, none⟩) nx cx (X.map encD)
  y : Own w base 82 3 (some ⟨gy, 0, none⟩) ny cy (Y.map encD)
section
variable {w w' : World} {base g1 n1 c1 g2 c2 gx nx cx gy ny cy : Nat} {T : List (Nat × Nat)} {xs : List (Option Addr × Nat × Nat)} {S : List (List (Int × Int))} {X Y : List (Int × Int × Nat)}
theorem PairsW.below (h : PairsW w base g1 n1 c1 T g2 c2 xs S gx nx cx X gy ny cy Y) (hb : Below w.heap.size w w') : PairsW w' base g1 n1 c1 T g2 c2 xs S gx nx cx X gy ny cy Y :=
  ⟨h.two.below hb, h.row.below hb, h.set.below hb, h.spl, h.x.below hb, h.y.below hb⟩
theorem PairsW.lens (h : PairsW w base g1 n1 c1 T g2 c2 xs S gx nx cx X gy ny cy Y) : T.length = n1 ∧ xs.length = n1 ∧ S.length = n1 ∧ X.length = nx ∧ Y.length = ny := by
  have e1 : T.length = n1 := by simpa using h.two.len
  have e2 : xs.length = n1 := by simpa using h.row.len
  exact ⟨e1, e2, by rw [← h.set.len]; exact e2, by simpa using h.x.len, by simpa using h.y.len⟩
/-- A pair more, and a row of none. -/
theorem PairsW.more {w1 w2 : World} {o1 o2 : Obj} {A1 A2 : Option Addr} {c3 c4 : Nat} {p : Nat × Nat} (h : PairsW w base g1 n1 c1 T g2 c2 xs S gx nx cx X gy ny cy Y)
    (ho1 : Own w1 base 104 2 A1 (n1 + 1) c3 ((T ++ [p]).map encTwo)) (hg1 : (w.alloc o1).grownBy w1 (some g1))
    (ho2 : Own w2 base 37 1 A2 (n1 + 1) c4 ((xs ++ [(none, 0, 0)]).map encSl)) (hg2 : (w1.alloc o2).grownBy w2 (some g2)) (hA2 : A2 = some ⟨g2, 0, none⟩ ∨ A2 = some ⟨(w1.alloc o2).heap.size, 0, none⟩) (hB : base ≤ w.heap.size) :
    ∃ g3 g4, A1 = some ⟨g3, 0, none⟩ ∧ A2 = some ⟨g4, 0, none⟩ ∧ PairsW w2 base g3 (n1 + 1) c3 (T ++ [p]) g4 c4 (xs ++ [(none, 0, 0)]) (S ++ [[]]) gx nx cx X gy ny cy Y ∧ Below base w w2 := by
  obtain ⟨t1, t2, t3, t4, t5, t6⟩ := types_two
  obtain ⟨g3, rfl, _, _⟩ := ho1.form (by omega)
  obtain ⟨g4, rfl, _, _⟩ := ho2.form (by omega)
  have k1 := grown_alloc hg1
  have k2 := grown_alloc hg2
  have r1 := h.row.grown k1 (fun a ha e => by injection e with e; exact h.two.apart h.row t1 ⟨g1, 0, none⟩ a rfl ha e.symm)
  have s1 := h.set.grown k1 (fun g q e => own_not_R h.two t2 g q e)
  have x1 := h.x.grown k1 (fun a ha e => by injection e with e; exact h.two.apart h.x t3 ⟨g1, 0, none⟩ a rfl ha e.symm)
  have y1 := h.y.grown k1 (fun a ha e => by injection e with e; exact h.two.apart h.y t3 ⟨g1, 0, none⟩ a rfl ha e.symm)
  have p2 := ho1.grown k2 (fun a ha e => by injection e with e; exact ho1.apart r1 t1 a ⟨g2, 0, none⟩ ha rfl e)
  have s2 := s1.grown k2 (fun g q e => own_not_R r1 t4 g q e)
  have x2 := x1.grown k2 (fun a ha e => by injection e with e; exact r1.apart x1 t5 ⟨g2, 0, none⟩ a rfl ha e.symm)
  have y2 := y1.grown k2 (fun a ha e => by injection e with e; exact r1.apart y1 t5 ⟨g2, 0, none⟩ a rfl ha e.symm)
  refine ⟨g3, g4, rfl, rfl, ⟨p2, ho2, s2.snoc (Own.nil_ _ _ _ _), split_snoc h.spl, x2, y2⟩, ?_⟩
  exact ((Below.refl _ _).grown k1 hB (fun k hk => by injection hk with hk; subst hk; exact (h.two.lt _ rfl).1)).grown k2 (Nat.le_trans hB k1.size) (fun k hk => by injection hk with hk; subst hk; exact (h.row.lt _ rfl).1)
/-- One row longer, and stored. -/
theorem PairsW.longer {w3 : World} {o : Obj} {A3 : Option Addr} {i n3 c3 : Nat} {z : Option Addr × Nat × Nat} {s t : List (Int × Int)} (h : PairsW w base g1 n1 c1 T g2 c2 xs S gx nx cx X gy ny cy Y) (hi : xs[i]? = some z) (hs : S[i]? = some s)
    (ho : Own w3 base 80 2 A3 n3 c3 (t.map encR)) (hg : (w.alloc o).grownBy w3 (z.1.map (·.block))) (hA : A3 = z.1 ∨ A3 = some ⟨(w.alloc o).heap.size, 0, none⟩) (hB : base ≤ w.heap.size) :
    w3.cell? ⟨g2, i, none⟩ = some (.slice z.1 z.2.1 z.2.2) ∧ w3.frozen? ⟨g2, i, none⟩ = false ∧
    PairsW (w3.setCell ⟨g2, i, none⟩ (.slice A3 n3 c3)) base g1 n1 c1 T g2 c2 (xs.set i (A3, n3, c3)) (S.set i t) gx nx cx X gy ny cy Y ∧ Below base w (w3.setCell ⟨g2, i, none⟩ (.slice A3 n3 c3)) := by
  obtain ⟨t1, t2, t3, t4, t5, t6⟩ := types_two
  have k := grown_alloc hg
  have hlt : i < xs.length := (List.getElem?_eq_some_iff.1 hi).1
  have hz := h.set.own i z s hi hs
  have sp := h.set.longer h.spl hi hs ho k (hA.imp id fun e => ⟨_, e, by simp⟩)
  have far : ∀ {A : Option Addr} {e : TypeId} {sz n c : Nat} {cs : List (List Value)}, Own w base e sz A n c cs → (80 : TypeId) ≠ e → Own w3 base e sz A n c cs := fun {A e sz n c cs} ho hne => ho.grown k (fun a ha e' => by
    cases hz1 : z.1 with
    | none => rw [hz1] at e'; cases e'
    | some b => rw [hz1] at e'; simp at e'; exact hz.apart ho hne b a hz1 ha e'.symm)
  have p3 := far h.two (Ne.symm t2)
  have r3 := far h.row (Ne.symm t4)
  have x3 := far h.x t6
  have y3 := far h.y t6
  have hc := r3.cell' rfl (k := i) (y := z) hi
  refine ⟨hc, r3.frozen i, ⟨?_, ?_, ?_, sp.2, ?_, ?_⟩, ?_⟩
  · exact p3.setCell (p := ⟨g2, i, none⟩) (fun a ha e => p3.apart r3 t1 a ⟨g2, 0, none⟩ ha rfl e) _
  · exact r3.storedSl hlt (A3, n3, c3)
  · exact sp.1.setCell (q := ⟨g2, i, none⟩) (fun r => own_not_R r3 t4 g2 r rfl) _
  · exact x3.setCell (p := ⟨g2, i, none⟩) (fun a ha e => r3.apart x3 t5 ⟨g2, 0, none⟩ a rfl ha e.symm) _
  · exact y3.setCell (p := ⟨g2, i, none⟩) (fun a ha e => r3.apart y3 t5 ⟨g2, 0, none⟩ a rfl ha e.symm) _
  · refine ((Below.refl _ _).grown k hB (fun j hj => ?_)).setCell (p := ⟨g2, i, none⟩) (h.row.lt _ rfl).1 _
    cases hz1 : z.1 with
    | none => rw [hz1] at hj; cases hj
    | some b => rw [hz1] at hj; simp at hj; subst hj; exact (hz.lt b hz1).1
end
theorem set_snoc {α : Type} (S : List α) (x y : α) : (S ++ [x]).set S.length y = S ++ [y] := by
  rw [List.set_append_right _ _ (Nat.le_refl _), Nat.sub_self]; rfl
end Go.Proofs.YtejccafolfeabaaGreatDoor

/-
  PLAIN: pairs, by places in both rows. No walk.
-/
namespace Go.Proofs.YtejccafolfeabaaGreatDoor

theorem dropJ {α : Type} {l : List α} {k : Nat} {x : α} (hx : l[k]? = some x) : l.drop k = x :: l.drop (k + 1) := by
  obtain ⟨h, e⟩ := List.getElem?_eq_some_iff.1 hx
  rw [List.drop_eq_getElem_cons h, e]
/-- How far pairs has come: the rows' rests begin at i and j. -/
def PairsG (a b : DbP) (m : Int) (i j : Nat) (T : List (Nat × Nat)) (S : List (List (Int × Int))) : Prop := PairsAt a b m (a.allR.drop i) (b.allR.drop j) T S
theorem tile_top {m : Int} {X : List (Int × Int × Nat)} (h : TileW m X) (hn : X ≠ []) (hb : ∀ x ∈ X, x.2.1 ≤ 1114111) : m ≤ 1114111 := by
  cases X with
  | nil => exact absurd rfl hn
  | cons x r => exact tileW_ne h (hb x (by simp))
section
variable {a b : DbP} {m : Int} {i j : Nat} {T : List (Nat × Nat)} {S : List (List (Int × Int))} {x y : Int × Int × Nat}
theorem pairsG_next (ha : a.Ok) (aa : Apart a.sets) (hb : b.Ok) (ab : Apart b.sets) (h : PairsG a b m i j T S) (hx : a.allR[i]? = some x) (hy : b.allR[j]? = some y) : NextAt a b m (min x.2.1 y.2.1) (x.2.2, y.2.2) := by
  unfold PairsG at h
  rw [dropJ hx, dropJ hy] at h
  exact pairs_next ha aa hb ab h
theorem pairsG_old {k : Nat} {s : List (Int × Int)} (h : PairsG a b m i j T S) (hx : a.allR[i]? = some x) (hy : b.allR[j]? = some y) {z : Int} (n : NextAt a b m z (x.2.2, y.2.2)) (hz : z = min x.2.1 y.2.1) (hk : T[k]? = some (x.2.2, y.2.2)) (hs : S[k]? = some s) :
    PairsG a b (z + 1) (if x.2.1 = z then i + 1 else i) (if y.2.1 = z then j + 1 else j) T (S.set k (s ++ [(m, z)])) := by
  unfold PairsG at h ⊢
  rw [dropJ hx, dropJ hy] at h
  have := pairs_old h n hz hk hs
  by_cases e1 : x.2.1 = z <;> by_cases e2 : y.2.1 = z <;> simp only [e1, e2, if_true, if_false] at this ⊢ <;> first | exact this | (simp only [dropJ hx, dropJ hy]; exact this)
theorem pairsG_new (h : PairsG a b m i j T S) (hx : a.allR[i]? = some x) (hy : b.allR[j]? = some y) {z : Int} (n : NextAt a b m z (x.2.2, y.2.2)) (hz : z = min x.2.1 y.2.1) (hk : (x.2.2, y.2.2) ∉ T) :
    PairsG a b (z + 1) (if x.2.1 = z then i + 1 else i) (if y.2.1 = z then j + 1 else j) (T ++ [(x.2.2, y.2.2)]) (S ++ [[(m, z)]]) := by
  unfold PairsG at h ⊢
  rw [dropJ hx, dropJ hy] at h
  have := pairs_new h n hz hk
  by_cases e1 : x.2.1 = z <;> by_cases e2 : y.2.1 = z <;> simp only [e1, e2, if_true, if_false] at this ⊢ <;> first | exact this | (simp only [dropJ hx, dropJ hy]; exact this)
end
end Go.Proofs.YtejccafolfeabaaGreatDoor

/-
  props.pairs, walked. (Printed by gen_pairs.py.)
-/
namespace Go.Proofs.YtejccafolfeabaaGreatDoor
open Go.RowKit Go.Maps
theorem Own.cellRd {w : World} {base : Nat} {e : TypeId} {g n c k : Nat} {l : List (Int × Int × Nat)} {x : Int × Int × Nat} (h : Own w base e 3 (some ⟨g, 0, none⟩) n c (l.map encD)) (hk : l[k]? = some x) :
    w.cell? ⟨g, k * 3, none⟩ = some (.int .i32 x.1) ∧ w.cell? ⟨g, k * 3 + 1, none⟩ = some (.int .i32 x.2.1) ∧ w.cell? ⟨g, k * 3 + 2, none⟩ = some (.int .i64 (x.2.2 : Int)) := by
  have hx : (l.map encD)[k]? = some (encD x) := by simp [hk]
  exact ⟨h.cell (j := 0) hx rfl, h.cell (j := 1) hx rfl, h.cell (j := 2) hx rfl⟩
theorem own_unit {w : World} {t : TypeId} {u : Value} {base : Nat} (hb : base ≤ w.heap.size) : Own (w.alloc (.cells #[u] t)) base t 1 (some ⟨w.heap.size, 0, none⟩) 1 1 [[u]] :=
  ⟨rfl, by simp, by simp, .inr ⟨w.heap.size, 1, #[u], rfl, hb, heap_alloc_new _ _, Nat.le_refl _, by unfold maxLen; omega, rfl, by simp⟩⟩
theorem own_pair {w : World} {t : TypeId} {u v : Value} {base : Nat} (hb : base ≤ w.heap.size) : Own (w.alloc (.cells #[u, v] t)) base t 2 (some ⟨w.heap.size, 0, none⟩) 1 1 [[u, v]] :=
  ⟨rfl, by simp, by simp, .inr ⟨w.heap.size, 1, #[u, v], rfl, hb, heap_alloc_new _ _, Nat.le_refl _, by unfold maxLen; omega, rfl, by simp⟩⟩
theorem get_last {α : Type} {l : List α} {x : α} {n : Nat} (h : l.length = n) : (l ++ [x])[n]? = some x := by subst h; simp
theorem pairEnd_of {a b : DbP} {w : World} {base g1 n1 c1 g2 c2 gx nx cx gy ny cy : Nat} {T : List (Nat × Nat)} {xs : List (Option Addr × Nat × Nat)} {S : List (List (Int × Int))} {X Y : List (Int × Int × Nat)} {m : Int} {i j : Nat} (h : PairsW w base g1 n1 c1 T g2 c2 xs S gx nx cx X gy ny cy Y)
    (oa : a.Ok) (aa : Apart a.sets) (ob : b.Ok) (ab : Apart b.sets) (hP : PairsG a b m i j T S) (hi : a.allR.length ≤ i ∨ b.allR.length ≤ j) :
    PairEnd a b base (.returned (.tuple #[.slice (some ⟨g1, 0, none⟩) n1 c1, .slice (some ⟨g2, 0, none⟩) n1 c2])) w := by
  have he : a.allR.drop i = [] ∨ b.allR.drop j = [] := hi.imp List.drop_of_length_le List.drop_of_length_le
  obtain ⟨hT, _⟩ := pairs_end hP he
  have hf := pairs_few oa aa ob ab hP
  have hl := h.lens
  refine ⟨g1, n1, c1, g2, c2, xs, S, rfl, by rw [← hT]; exact hl.1, by omega, by rw [← hT]; exact h.two, h.row, h.set, fun k p s hk hs => ⟨pairs_sets oa aa ob ab hP he hk hs, pairs_len oa aa ob ab hP (List.mem_of_getElem? hs)⟩⟩
set_option maxRecDepth 100000 in
set_option maxHeartbeats 16000000 in
theorem wpairs_any (p q : Nat) (a b : DbP) (w : World) (hp : DbAt w p a) (hq : DbAt w q b) (oa : a.Ok) (aa : Apart a.sets) (ob : b.Ok) (ab : Apart b.sets) :
    Calls Tryz.prog 58 #[.pointer (some ⟨p, 0, none⟩), .pointer (some ⟨q, 0, none⟩)] w fun e w' => PairEnd a b w.heap.size e w' ∧ Below w.heap.size w w' := by
  obtain ⟨i1, hi1, hza1, hza2, hza3⟩ := info_parts (show (Tryz.prog.info? 104).map (fun i => (i.zero, i.size, i.bytes)) = some (some (.agg #[.int .i64 0, .int .i64 0]), 2, 16) by kernel_rfl)
  obtain ⟨i2, hi2, hzb1, hzb2, hzb3⟩ := info_parts (show (Tryz.prog.info? 37).map (fun i => (i.zero, i.size, i.bytes)) = some (some (.slice none 0 0), 1, 24) by kernel_rfl)
  obtain ⟨i3, hi3, hzc1, hzc2, hzc3⟩ := info_parts infoR
  have HA := Lib.hid (fun W h => wall_any p a W h oa aa)
  have HQ := Lib.hid (fun W h => wall_any q b W h ob ab)
  have HO := Lib.hid (And.intro oa (And.intro aa (And.intro ob ab)))
  have n1 : Own (w.alloc (.cells #[.int .i64 0, .int .i64 0] 104)) w.heap.size 104 2 (some ⟨w.heap.size, 0, none⟩) 1 1 ([((0 : Nat), (0 : Nat))].map encTwo) := own_pair (Nat.le_refl _)
  have s2 : Own ((w.alloc (.cells #[.int .i64 0, .int .i64 0] 104)).alloc (.cells #[.slice none 0 0] 37)) w.heap.size 37 1 (some ⟨w.heap.size + 1, 0, none⟩) 1 1 ([((none : Option Addr), 0, 0)].map encSl) := by
    have := own_unit (w := w.alloc (.cells #[.int .i64 0, .int .i64 0] 104)) (t := 37) (u := .slice none 0 0) (base := w.heap.size) (by simp)
    rw [show (w.alloc (.cells #[.int .i64 0, .int .i64 0] 104)).heap.size = w.heap.size + 1 by simp] at this
    exact this
  have n2 := n1.alloc (.cells #[.slice none 0 0] 37)
  have hb0 : Below w.heap.size w ((w.alloc (.cells #[.int .i64 0, .int .i64 0] 104)).alloc (.cells #[.slice none 0 0] 37)) := ((Below.refl _ _).alloc (Nat.le_refl _) _).alloc (by simp) _
  clear oa aa ob ab n1
  go_enter Tryz.func58, Tryz.ntmps58
  go_wp2_with fail
  generalize ((w.alloc (.cells #[.int .i64 0, .int .i64 0] 104)).alloc (.cells #[.slice none 0 0] 37)) = w0 at n2 s2 hb0 ⊢
  refine (HA.out _ (hp.below hb0)).mono ?_
  rintro e w1 ⟨gx, nx, cx, rfl, hx0, hxn, hox, hb1⟩
  have hb01 := below_two hb0 hb1
  go_wp2_with fail
  refine (HQ.out _ (hq.below hb01)).mono ?_
  rintro e w2 ⟨gy, ny, cy, rfl, hy0, hyn, hoy, hb2⟩
  have HB := below_two hb01 hb2
  have P0 : PairsW w2 w.heap.size w.heap.size 1 1 [(0, 0)] (w.heap.size + 1) 1 [(none, 0, 0)] [[]] gx nx cx a.allR gy ny cy b.allR :=
    ⟨(n2.below hb1).below hb2, (s2.below hb1).below hb2, ⟨rfl, fun k x l hx hl => by
      match k, hx, hl with
      | 0, hx, hl => simp at hx hl; subst hx; subst hl; exact Own.nil_ _ _ _ _
      | k + 1, hx, hl => simp at hx⟩, split_one, (hox.below hb2).more hb0.size, hoy.more hb01.size⟩
  have HC := Lib.hid (And.intro hox.cap.1 hoy.cap.1)
  clear hp hq HA HQ n2 s2 hb0 hb01 hb1 hb2 hox hoy
  go_wp2_with fail
  go_loopw [6, 7, 8, 9, 10] (fun v6 v7 v8 v9 v10 wr => ∃ (m : Int) (i j : Nat) (T : List (Nat × Nat)) (S : List (List (Int × Int))) (g1 n1 c1 g2 c2 : Nat) (xs : List (Option Addr × Nat × Nat)) (Ax Ay : Option Addr) (ux uy : Nat),
      v6 = .slice (some ⟨g1, 0, none⟩) n1 c1 ∧ v7 = .slice (some ⟨g2, 0, none⟩) n1 c2 ∧ v8 = .slice Ax (nx - i) ux ∧ v9 = .slice Ay (ny - j) uy ∧ v10 = .int .i32 m ∧ i ≤ nx ∧ j ≤ ny ∧ nx - i ≤ ux ∧ ny - j ≤ uy ∧ (i < nx → Ax = some ⟨gx, i * 3, none⟩) ∧ (j < ny → Ay = some ⟨gy, j * 3, none⟩) ∧
      Hid (PairsG a b m i j T S) ∧ PairsW wr w.heap.size g1 n1 c1 T g2 c2 xs S gx nx cx a.allR gy ny cy b.allR ∧ Below w.heap.size w wr) (fun _ _ u v _ _ => (match u with | .slice _ n _ => n | _ => 0) + (match v with | .slice _ n _ => n | _ => 0))
  case atStart => exact ⟨0, 0, 0, [(0, 0)], [[]], w.heap.size, 1, 1, w.heap.size + 1, 1, [(none, 0, 0)], _, _, cx, cy, rfl, rfl, rfl, rfl, rfl, by omega, by omega, HC.out.1, HC.out.2, fun _ => by simp, fun _ => by simp, Lib.hid (pairs_first HO.out.1 HO.out.2.1 HO.out.2.2.1 HO.out.2.2.2), P0, HB⟩
  case round =>
    clear P0 HB HC
    obtain ⟨m, i, j, T, S, g1, n1, c1, g2, c2, xs, Ax, Ay, ux, uy, rfl, rfl, rfl, rfl, rfl, hi, hj, hux, huy, hAx, hAy, HP, PW, HB⟩ := hrel
    obtain ⟨HT, Hxs, HS, HXl, HYl⟩ := PW.lens
    have hszr := HB.size
    have hn1 : n1 ≤ 2228225 := by have := pairs_few HO.out.1 HO.out.2.1 HO.out.2.2.1 HO.out.2.2.2 HP.out; omega
    by_cases hlt : i < nx ∧ j < ny
    · obtain ⟨hin, hjm⟩ := hlt
      obtain rfl := hAx hin
      obtain rfl := hAy hjm
      obtain ⟨⟨x1, x2, x3⟩, hx⟩ : ∃ x, a.allR[i]? = some x := ⟨_, List.getElem?_eq_getElem (show i < a.allR.length by omega)⟩
      obtain ⟨⟨y1, y2, y3⟩, hy⟩ : ∃ y, b.allR[j]? = some y := ⟨_, List.getElem?_eq_getElem (show j < b.allR.length by omega)⟩
      have HN := Lib.hid (pairsG_next HO.out.1 HO.out.2.1 HO.out.2.2.1 HO.out.2.2.2 HP.out hx hy)
      have ⟨_, k2, k3⟩ := PW.x.cellRd hx
      have ⟨_, k5, k6⟩ := PW.y.cellRd hy
      have hxb := allR_bd HO.out.1 _ (List.mem_of_getElem? hx)
      have hyb := allR_bd HO.out.2.2.1 _ (List.mem_of_getElem? hy)
      have Hx := Lib.hid hx
      have Hy := Lib.hid hy
      simp only at hxb hyb k2 k3 k5 k6
      have hx2 : 0 ≤ x2 ∧ x2 ≤ 1114111 := ⟨by omega, by omega⟩
      have hy2 : 0 ≤ y2 ∧ y2 ≤ 1114111 := ⟨by omega, by omega⟩
      clear hx hy hxb hyb hAx hAy
      rcases (by omega : x2 < y2 ∨ x2 = y2 ∨ y2 < x2) with hc | hc | hc
      · have e2 : min x2 y2 = x2 := by omega
        have e1 : ((y2 : Int) == x2) = false := beq_eq_false_iff_ne.2 (by omega)
        have HN' : Hid (NextAt a b m x2 (x3, y3)) := Lib.hid (by have := HN.out; rwa [show min x2 y2 = x2 by omega] at this)
        go_wp2_with fail
        go_quiet (fail)
        go_wp2_with fail
        have k3' := cell_keep (w := wr.drewN (nq + 1)) k3 ((Below.refl _ _).alloc (Nat.le_refl _) (.cells #[.int .i64 0, .int .i64 0] 104))
        have k6' := cell_keep (w := wr.drewN (nq + 1)) k6 ((Below.refl _ _).alloc (Nat.le_refl _) (.cells #[.int .i64 0, .int .i64 0] 104))
        have Bp : Blk ((wr.drewN (nq + 1)).alloc (.cells #[.int .i64 0, .int .i64 0] 104)) wr.heap.size 104 #[.int .i64 0, .int .i64 0] := Blk.new (wr.drewN (nq + 1)) 104 _
        have p0 := Bp.cell 0
        have p1 := Bp.cell 1
        have pf0 := Bp.frozen 0
        have pf1 := Bp.frozen 1
        simp only [List.getElem?_toArray, List.getElem?_cons_zero, List.getElem?_cons_succ] at p0 p1
        go_region
        have hbp : Below wr.heap.size wr ((((wr.drewN (nq + 1)).alloc (.cells #[.int .i64 0, .int .i64 0] 104)).setCell ⟨wr.heap.size, 0, none⟩ (.int .i64 (x3 : Nat))).setCell ⟨wr.heap.size, 1, none⟩ (.int .i64 (y3 : Nat))) :=
          (((below_refl_drewN wr _).alloc (Nat.le_refl _) _).setCell (Nat.le_refl _) _).setCell (Nat.le_refl _) _
        have B2 := (Bp.set_ 0 (.int .i64 (x3 : Nat))).set_ 1 (.int .i64 (y3 : Nat))
        simp only [List.setIfInBounds_toArray, List.set_cons_zero, List.set_cons_succ] at B2
        clear Bp p0 p1 pf0 pf1 k3' k6' k2 k3 k5 k6
        generalize ((((wr.drewN (nq + 1)).alloc (.cells #[.int .i64 0, .int .i64 0] 104)).setCell ⟨wr.heap.size, 0, none⟩ (.int .i64 (x3 : Nat))).setCell ⟨wr.heap.size, 1, none⟩ (.int .i64 (y3 : Nat))) = wp at hbp B2 ⊢
        have PW4 := PW.below hbp
        have q0 := B2.cell 0
        have q1 := B2.cell 1
        simp only [List.getElem?_toArray, List.getElem?_cons_zero, List.getElem?_cons_succ] at q0 q1
        go_wp2_with fail
        refine (lIndexTwo_any _ n1 c1 T (x3, y3) _ (PW4.two.rd (by omega)) HT (by omega)).mono ?_
        rintro e w5 ⟨zi, rfl, hres, hb5⟩
        have PW5 := PW4.below hb5
        have HB5 := HB.trans ((below_two hbp hb5).mono hszr)
        have hB5 := HB5.size
        have u0 := cell_keep q0 hb5
        have u1 := cell_keep q1 hb5
        clear PW PW4 HB hbp hb5 q0 q1 B2
        rcases hres with ⟨k, rfl, hk⟩ | ⟨rfl, hnot⟩
        · obtain ⟨s, hs⟩ : ∃ s, S[k]? = some s := ⟨_, List.getElem?_eq_getElem (by have := (List.getElem?_eq_some_iff.1 hk).1; omega)⟩
          obtain ⟨⟨zA, zn, zc⟩, hz⟩ : ∃ z, xs[k]? = some z := ⟨_, List.getElem?_eq_getElem (by have := (List.getElem?_eq_some_iff.1 hk).1; omega)⟩
          have hkn : k < n1 := by have := (List.getElem?_eq_some_iff.1 hk).1; omega
          have hoz : Own w5 w.heap.size 80 2 zA zn zc (s.map encR) := PW5.set.own k (zA, zn, zc) s hz hs
          have hzn : zn ≤ 2228224 := by have := pairs_len HO.out.1 HO.out.2.1 HO.out.2.2.1 HO.out.2.2.2 HP.out (List.mem_of_getElem? hs); have h1 := hoz.len; rw [List.length_map] at h1; omega
          have HG := pairsG_old HP.out Hx.out Hy.out HN'.out (show x2 = min x2 y2 by omega) hk hs
          rw [if_pos rfl, if_neg (show ¬ y2 = x2 by omega)] at HG
          have HG := Lib.hid HG
          have cz := PW5.row.cell' rfl (k := k) hz
          have Hz := Lib.hid hz
          have Hs := Lib.hid hs
          clear hz hs hk HT Hxs HS HXl HYl
          go_wp2_with (at_builtin; go_must (refine wpList_app rfl (.tmp 66) (.tmp 70) _ rfl w.heap.size 80 i3 _ 2 8 Tryz.underlying37 hi3 hzc1 hzc2 hzc3 rfl (by omega) zA zn zc (s.map encR) rfl (hoz.alloc _) _ 1 1 [encR (m, x2)] rfl rfl (Rd.newAt (by simp) rfl) (encR_ok [(m, x2)]) (by unfold maxLen; omega) (by omega) (by simp; omega) ?_); intro A3 c3 w6 ho6 hg6 hA6; have HLg := PW5.longer Hz.out Hs.out (t := s ++ [(m, x2)]) (by rw [List.map_append]; exact ho6) hg6 hA6 hB5; have m1 := HLg.1; have m2 := HLg.2.1; have k26 := (HLg.2.2.1.x.cellRd Hx.out).2.1; have k56 := (HLg.2.2.1.y.cellRd Hy.out).2.1)
          go_roundw
          case rel => exact ⟨x2 + 1, i + 1, j, T, S.set k (s ++ [(m, x2)]), g1, n1, c1, g2, c2, xs.set k (A3, zn + 1, c3), _, _, ux - 1, uy, rfl, rfl, by rw [show nx - (i + 1) = nx - i - 1 by omega], rfl, by go_num, by omega, by omega, by omega, huy, fun h => by rw [if_neg (by omega), show i * 3 + 3 = (i + 1) * 3 by omega], fun _ => rfl, HG, HLg.2.2.1, HB5.trans (HLg.2.2.2.mono (Nat.le_refl _))⟩
          case measure => simp only []; omega
        · have HG := pairsG_new HP.out Hx.out Hy.out HN'.out (show x2 = min x2 y2 by omega) hnot
          rw [if_pos rfl, if_neg (show ¬ y2 = x2 by omega)] at HG
          have HG := Lib.hid HG
          have HxsL : Hid (xs.length = n1) := Lib.hid Hxs
          have HSL : Hid (S.length = n1) := Lib.hid HS
          clear hnot HT Hxs HS HXl HYl
          go_wp2_with (first
            | (at_builtin; refine wpList_app rfl (.tmp 54) (.tmp 56) _ rfl w.heap.size 104 i1 _ 2 16 Tryz.underlying100 hi1 hza1 hza2 hza3 rfl (by omega) (some ⟨g1, 0, none⟩) n1 c1 (T.map encTwo) rfl (PW5.two.alloc _) _ 1 1 [encTwo (x3, y3)] rfl rfl (Rd.newAt (by simp) rfl) (encTwo_ok [(x3, y3)]) (by unfold maxLen; omega) (by omega) (by simp; omega) ?_; intro A7 c7 w7 ho7 hg7 hA7; have hz7 : w.heap.size ≤ w7.heap.size := Nat.le_trans hB5 (Nat.le_trans (by simp) hg7.size); have r7 := PW5.row.grown (grown_alloc hg7) (fun a ha e => by simp at e; exact PW5.two.apart PW5.row types_two.1 ⟨g1, 0, none⟩ a rfl ha e.symm))
            | (at_builtin; refine wpList_app rfl (.tmp 58) (.tmp 59) _ rfl w.heap.size 37 i2 _ 1 24 Tryz.underlying68 hi2 hzb1 hzb2 hzb3 rfl (by omega) (some ⟨g2, 0, none⟩) n1 c2 (xs.map encSl) rfl (r7.alloc _) _ 1 1 [encSl (none, 0, 0)] rfl rfl (Rd.newAt (by simp) rfl) (encSl_ok [(none, 0, 0)]) (by unfold maxLen; omega) (by omega) (by simp; omega) ?_; intro A8 c8 w8 ho8 hg8 hA8; obtain ⟨g3, g4, rfl, rfl, PW8, hb8⟩ := PW5.more (p := (x3, y3)) (by rw [List.map_append]; exact ho7) hg7 (by rw [List.map_append]; exact ho8) hg8 hA8 hB5; have hz8 : (xs ++ [((none : Option Addr), 0, 0)])[n1]? = some (none, 0, 0) := get_last HxsL.out; have hs8 : (S ++ [[]])[n1]? = some [] := get_last HSL.out; have cz := PW8.row.cell' rfl (k := n1) hz8; have hB8 := Nat.le_trans hB5 hb8.size; have hoz : Own w8 w.heap.size 80 2 none 0 0 (([] : List (Int × Int)).map encR) := Own.nil_ _ _ _ _; have Hz8 := Lib.hid hz8; have Hs8 := Lib.hid hs8; clear hz8 hs8)
            | (at_builtin; refine wpList_app rfl (.tmp 66) (.tmp 70) _ rfl w.heap.size 80 i3 _ 2 8 Tryz.underlying37 hi3 hzc1 hzc2 hzc3 rfl (by omega) none 0 0 (([] : List (Int × Int)).map encR) rfl (hoz.alloc _) _ 1 1 [encR (m, x2)] rfl rfl (Rd.newAt (by simp) rfl) (encR_ok [(m, x2)]) (by unfold maxLen; omega) (by omega) (by simp; omega) ?_; intro A3 c3 w6 ho6 hg6 hA6; have HLg := PW8.longer Hz8.out Hs8.out (t := [(m, x2)]) ho6 hg6 hA6 hB8; have m1 := HLg.1; have m2 := HLg.2.1; have k26 := (HLg.2.2.1.x.cellRd Hx.out).2.1; have k56 := (HLg.2.2.1.y.cellRd Hy.out).2.1))
          have HS9 : Hid ((S ++ [[]]).set n1 [(m, x2)] = S ++ [[(m, x2)]]) := Lib.hid (by rw [← HSL.out]; exact set_snoc S [] _)
          have PW9 := HLg.2.2.1
          rw [HS9.out] at PW9
          go_roundw
          case rel => exact ⟨x2 + 1, i + 1, j, T ++ [(x3, y3)], S ++ [[(m, x2)]], g3, n1 + 1, c7, g4, c8, (xs ++ [(none, 0, 0)]).set n1 (A3, 1, c3), _, _, ux - 1, uy, rfl, rfl, by rw [show nx - (i + 1) = nx - i - 1 by omega], rfl, by go_num, by omega, by omega, by omega, huy, fun h => by rw [if_neg (by omega), show i * 3 + 3 = (i + 1) * 3 by omega], fun _ => rfl, HG, PW9, (HB5.trans hb8).trans HLg.2.2.2⟩
          case measure => simp only []; omega
      · subst hc
        have HN' : Hid (NextAt a b m x2 (x3, y3)) := Lib.hid (by have := HN.out; rwa [show min x2 x2 = x2 by omega] at this)
        go_wp2_with fail
        go_quiet (fail)
        go_wp2_with fail
        have k3' := cell_keep (w := wr.drewN (nq + 1)) k3 ((Below.refl _ _).alloc (Nat.le_refl _) (.cells #[.int .i64 0, .int .i64 0] 104))
        have k6' := cell_keep (w := wr.drewN (nq + 1)) k6 ((Below.refl _ _).alloc (Nat.le_refl _) (.cells #[.int .i64 0, .int .i64 0] 104))
        have Bp : Blk ((wr.drewN (nq + 1)).alloc (.cells #[.int .i64 0, .int .i64 0] 104)) wr.heap.size 104 #[.int .i64 0, .int .i64 0] := Blk.new (wr.drewN (nq + 1)) 104 _
        have p0 := Bp.cell 0
        have p1 := Bp.cell 1
        have pf0 := Bp.frozen 0
        have pf1 := Bp.frozen 1
        simp only [List.getElem?_toArray, List.getElem?_cons_zero, List.getElem?_cons_succ] at p0 p1
        go_region
        have hbp : Below wr.heap.size wr ((((wr.drewN (nq + 1)).alloc (.cells #[.int .i64 0, .int .i64 0] 104)).setCell ⟨wr.heap.size, 0, none⟩ (.int .i64 (x3 : Nat))).setCell ⟨wr.heap.size, 1, none⟩ (.int .i64 (y3 : Nat))) :=
          (((below_refl_drewN wr _).alloc (Nat.le_refl _) _).setCell (Nat.le_refl _) _).setCell (Nat.le_refl _) _
        have B2 := (Bp.set_ 0 (.int .i64 (x3 : Nat))).set_ 1 (.int .i64 (y3 : Nat))
        simp only [List.setIfInBounds_toArray, List.set_cons_zero, List.set_cons_succ] at B2
        clear Bp p0 p1 pf0 pf1 k3' k6' k2 k3 k5 k6
        generalize ((((wr.drewN (nq + 1)).alloc (.cells #[.int .i64 0, .int .i64 0] 104)).setCell ⟨wr.heap.size, 0, none⟩ (.int .i64 (x3 : Nat))).setCell ⟨wr.heap.size, 1, none⟩ (.int .i64 (y3 : Nat))) = wp at hbp B2 ⊢
        have PW4 := PW.below hbp
        have q0 := B2.cell 0
        have q1 := B2.cell 1
        simp only [List.getElem?_toArray, List.getElem?_cons_zero, List.getElem?_cons_succ] at q0 q1
        go_wp2_with fail
        refine (lIndexTwo_any _ n1 c1 T (x3, y3) _ (PW4.two.rd (by omega)) HT (by omega)).mono ?_
        rintro e w5 ⟨zi, rfl, hres, hb5⟩
        have PW5 := PW4.below hb5
        have HB5 := HB.trans ((below_two hbp hb5).mono hszr)
        have hB5 := HB5.size
        have u0 := cell_keep q0 hb5
        have u1 := cell_keep q1 hb5
        clear PW PW4 HB hbp hb5 q0 q1 B2
        rcases hres with ⟨k, rfl, hk⟩ | ⟨rfl, hnot⟩
        · obtain ⟨s, hs⟩ : ∃ s, S[k]? = some s := ⟨_, List.getElem?_eq_getElem (by have := (List.getElem?_eq_some_iff.1 hk).1; omega)⟩
          obtain ⟨⟨zA, zn, zc⟩, hz⟩ : ∃ z, xs[k]? = some z := ⟨_, List.getElem?_eq_getElem (by have := (List.getElem?_eq_some_iff.1 hk).1; omega)⟩
          have hkn : k < n1 := by have := (List.getElem?_eq_some_iff.1 hk).1; omega
          have hoz : Own w5 w.heap.size 80 2 zA zn zc (s.map encR) := PW5.set.own k (zA, zn, zc) s hz hs
          have hzn : zn ≤ 2228224 := by have := pairs_len HO.out.1 HO.out.2.1 HO.out.2.2.1 HO.out.2.2.2 HP.out (List.mem_of_getElem? hs); have h1 := hoz.len; rw [List.length_map] at h1; omega
          have HG := pairsG_old HP.out Hx.out Hy.out HN'.out (show x2 = min x2 x2 by omega) hk hs
          rw [if_pos rfl, if_pos rfl] at HG
          have HG := Lib.hid HG
          have cz := PW5.row.cell' rfl (k := k) hz
          have Hz := Lib.hid hz
          have Hs := Lib.hid hs
          clear hz hs hk HT Hxs HS HXl HYl
          go_wp2_with (at_builtin; go_must (refine wpList_app rfl (.tmp 66) (.tmp 70) _ rfl w.heap.size 80 i3 _ 2 8 Tryz.underlying37 hi3 hzc1 hzc2 hzc3 rfl (by omega) zA zn zc (s.map encR) rfl (hoz.alloc _) _ 1 1 [encR (m, x2)] rfl rfl (Rd.newAt (by simp) rfl) (encR_ok [(m, x2)]) (by unfold maxLen; omega) (by omega) (by simp; omega) ?_); intro A3 c3 w6 ho6 hg6 hA6; have HLg := PW5.longer Hz.out Hs.out (t := s ++ [(m, x2)]) (by rw [List.map_append]; exact ho6) hg6 hA6 hB5; have m1 := HLg.1; have m2 := HLg.2.1; have k26 := (HLg.2.2.1.x.cellRd Hx.out).2.1; have k56 := (HLg.2.2.1.y.cellRd Hy.out).2.1)
          go_roundw
          case rel => exact ⟨x2 + 1, i + 1, j + 1, T, S.set k (s ++ [(m, x2)]), g1, n1, c1, g2, c2, xs.set k (A3, zn + 1, c3), _, _, ux - 1, uy - 1, rfl, rfl, by rw [show nx - (i + 1) = nx - i - 1 by omega], by rw [show ny - (j + 1) = ny - j - 1 by omega], by go_num, by omega, by omega, by omega, by omega, fun h => by rw [if_neg (by omega), show i * 3 + 3 = (i + 1) * 3 by omega], fun h => by rw [if_neg (by omega), show j * 3 + 3 = (j + 1) * 3 by omega], HG, HLg.2.2.1, HB5.trans (HLg.2.2.2.mono (Nat.le_refl _))⟩
          case measure => simp only []; omega
        · have HG := pairsG_new HP.out Hx.out Hy.out HN'.out (show x2 = min x2 x2 by omega) hnot
          rw [if_pos rfl, if_pos rfl] at HG
          have HG := Lib.hid HG
          have HxsL : Hid (xs.length = n1) := Lib.hid Hxs
          have HSL : Hid (S.length = n1) := Lib.hid HS
          clear hnot HT Hxs HS HXl HYl
          go_wp2_with (first
            | (at_builtin; refine wpList_app rfl (.tmp 54) (.tmp 56) _ rfl w.heap.size 104 i1 _ 2 16 Tryz.underlying100 hi1 hza1 hza2 hza3 rfl (by omega) (some ⟨g1, 0, none⟩) n1 c1 (T.map encTwo) rfl (PW5.two.alloc _) _ 1 1 [encTwo (x3, y3)] rfl rfl (Rd.newAt (by simp) rfl) (encTwo_ok [(x3, y3)]) (by unfold maxLen; omega) (by omega) (by simp; omega) ?_; intro A7 c7 w7 ho7 hg7 hA7; have hz7 : w.heap.size ≤ w7.heap.size := Nat.le_trans hB5 (Nat.le_trans (by simp) hg7.size); have r7 := PW5.row.grown (grown_alloc hg7) (fun a ha e => by simp at e; exact PW5.two.apart PW5.row types_two.1 ⟨g1, 0, none⟩ a rfl ha e.symm))
            | (at_builtin; refine wpList_app rfl (.tmp 58) (.tmp 59) _ rfl w.heap.size 37 i2 _ 1 24 Tryz.underlying68 hi2 hzb1 hzb2 hzb3 rfl (by omega) (some ⟨g2, 0, none⟩) n1 c2 (xs.map encSl) rfl (r7.alloc _) _ 1 1 [encSl (none, 0, 0)] rfl rfl (Rd.newAt (by simp) rfl) (encSl_ok [(none, 0, 0)]) (by unfold maxLen; omega) (by omega) (by simp; omega) ?_; intro A8 c8 w8 ho8 hg8 hA8; obtain ⟨g3, g4, rfl, rfl, PW8, hb8⟩ := PW5.more (p := (x3, y3)) (by rw [List.map_append]; exact ho7) hg7 (by rw [List.map_append]; exact ho8) hg8 hA8 hB5; have hz8 : (xs ++ [((none : Option Addr), 0, 0)])[n1]? = some (none, 0, 0) := get_last HxsL.out; have hs8 : (S ++ [[]])[n1]? = some [] := get_last HSL.out; have cz := PW8.row.cell' rfl (k := n1) hz8; have hB8 := Nat.le_trans hB5 hb8.size; have hoz : Own w8 w.heap.size 80 2 none 0 0 (([] : List (Int × Int)).map encR) := Own.nil_ _ _ _ _; have Hz8 := Lib.hid hz8; have Hs8 := Lib.hid hs8; clear hz8 hs8)
            | (at_builtin; refine wpList_app rfl (.tmp 66) (.tmp 70) _ rfl w.heap.size 80 i3 _ 2 8 Tryz.underlying37 hi3 hzc1 hzc2 hzc3 rfl (by omega) none 0 0 (([] : List (Int × Int)).map encR) rfl (hoz.alloc _) _ 1 1 [encR (m, x2)] rfl rfl (Rd.newAt (by simp) rfl) (encR_ok [(m, x2)]) (by unfold maxLen; omega) (by omega) (by simp; omega) ?_; intro A3 c3 w6 ho6 hg6 hA6; have HLg := PW8.longer Hz8.out Hs8.out (t := [(m, x2)]) ho6 hg6 hA6 hB8; have m1 := HLg.1; have m2 := HLg.2.1; have k26 := (HLg.2.2.1.x.cellRd Hx.out).2.1; have k56 := (HLg.2.2.1.y.cellRd Hy.out).2.1))
          have HS9 : Hid ((S ++ [[]]).set n1 [(m, x2)] = S ++ [[(m, x2)]]) := Lib.hid (by rw [← HSL.out]; exact set_snoc S [] _)
          have PW9 := HLg.2.2.1
          rw [HS9.out] at PW9
          go_roundw
          case rel => exact ⟨x2 + 1, i + 1, j + 1, T ++ [(x3, y3)], S ++ [[(m, x2)]], g3, n1 + 1, c7, g4, c8, (xs ++ [(none, 0, 0)]).set n1 (A3, 1, c3), _, _, ux - 1, uy - 1, rfl, rfl, by rw [show nx - (i + 1) = nx - i - 1 by omega], by rw [show ny - (j + 1) = ny - j - 1 by omega], by go_num, by omega, by omega, by omega, by omega, fun h => by rw [if_neg (by omega), show i * 3 + 3 = (i + 1) * 3 by omega], fun h => by rw [if_neg (by omega), show j * 3 + 3 = (j + 1) * 3 by omega], HG, PW9, (HB5.trans hb8).trans HLg.2.2.2⟩
          case measure => simp only []; omega
      · have e2 : min x2 y2 = y2 := by omega
        have e1 : ((x2 : Int) == y2) = false := beq_eq_false_iff_ne.2 (by omega)
        have HN' : Hid (NextAt a b m y2 (x3, y3)) := Lib.hid (by have := HN.out; rwa [show min x2 y2 = y2 by omega] at this)
        go_wp2_with fail
        go_quiet (fail)
        go_wp2_with fail
        have k3' := cell_keep (w := wr.drewN (nq + 1)) k3 ((Below.refl _ _).alloc (Nat.le_refl _) (.cells #[.int .i64 0, .int .i64 0] 104))
        have k6' := cell_keep (w := wr.drewN (nq + 1)) k6 ((Below.refl _ _).alloc (Nat.le_refl _) (.cells #[.int .i64 0, .int .i64 0] 104))
        have Bp : Blk ((wr.drewN (nq + 1)).alloc (.cells #[.int .i64 0, .int .i64 0] 104)) wr.heap.size 104 #[.int .i64 0, .int .i64 0] := Blk.new (wr.drewN (nq + 1)) 104 _
        have p0 := Bp.cell 0
        have p1 := Bp.cell 1
        have pf0 := Bp.frozen 0
        have pf1 := Bp.frozen 1
        simp only [List.getElem?_toArray, List.getElem?_cons_zero, List.getElem?_cons_succ] at p0 p1
        go_region
        have hbp : Below wr.heap.size wr ((((wr.drewN (nq + 1)).alloc (.cells #[.int .i64 0, .int .i64 0] 104)).setCell ⟨wr.heap.size, 0, none⟩ (.int .i64 (x3 : Nat))).setCell ⟨wr.heap.size, 1, none⟩ (.int .i64 (y3 : Nat))) :=
          (((below_refl_drewN wr _).alloc (Nat.le_refl _) _).setCell (Nat.le_refl _) _).setCell (Nat.le_refl _) _
        have B2 := (Bp.set_ 0 (.int .i64 (x3 : Nat))).set_ 1 (.int .i64 (y3 : Nat))
        simp only [List.setIfInBounds_toArray, List.set_cons_zero, List.set_cons_succ] at B2
        clear Bp p0 p1 pf0 pf1 k3' k6' k2 k3 k5 k6
        generalize ((((wr.drewN (nq + 1)).alloc (.cells #[.int .i64 0, .int .i64 0] 104)).setCell ⟨wr.heap.size, 0, none⟩ (.int .i64 (x3 : Nat))).setCell ⟨wr.heap.size, 1, none⟩ (.int .i64 (y3 : Nat))) = wp at hbp B2 ⊢
        have PW4 := PW.below hbp
        have q0 := B2.cell 0
        have q1 := B2.cell 1
        simp only [List.getElem?_toArray, List.getElem?_cons_zero, List.getElem?_cons_succ] at q0 q1
        go_wp2_with fail
        refine (lIndexTwo_any _ n1 c1 T (x3, y3) _ (PW4.two.rd (by omega)) HT (by omega)).mono ?_
        rintro e w5 ⟨zi, rfl, hres, hb5⟩
        have PW5 := PW4.below hb5
        have HB5 := HB.trans ((below_two hbp hb5).mono hszr)
        have hB5 := HB5.size
        have u0 := cell_keep q0 hb5
        have u1 := cell_keep q1 hb5
        clear PW PW4 HB hbp hb5 q0 q1 B2
        rcases hres with ⟨k, rfl, hk⟩ | ⟨rfl, hnot⟩
        · obtain ⟨s, hs⟩ : ∃ s, S[k]? = some s := ⟨_, List.getElem?_eq_getElem (by have := (List.getElem?_eq_some_iff.1 hk).1; omega)⟩
          obtain ⟨⟨zA, zn, zc⟩, hz⟩ : ∃ z, xs[k]? = some z := ⟨_, List.getElem?_eq_getElem (by have := (List.getElem?_eq_some_iff.1 hk).1; omega)⟩
          have hkn : k < n1 := by have := (List.getElem?_eq_some_iff.1 hk).1; omega
          have hoz : Own w5 w.heap.size 80 2 zA zn zc (s.map encR) := PW5.set.own k (zA, zn, zc) s hz hs
          have hzn : zn ≤ 2228224 := by have := pairs_len HO.out.1 HO.out.2.1 HO.out.2.2.1 HO.out.2.2.2 HP.out (List.mem_of_getElem? hs); have h1 := hoz.len; rw [List.length_map] at h1; omega
          have HG := pairsG_old HP.out Hx.out Hy.out HN'.out (show y2 = min x2 y2 by omega) hk hs
          rw [if_neg (show ¬ x2 = y2 by omega), if_pos rfl] at HG
          have HG := Lib.hid HG
          have cz := PW5.row.cell' rfl (k := k) hz
          have Hz := Lib.hid hz
          have Hs := Lib.hid hs
          clear hz hs hk HT Hxs HS HXl HYl
          go_wp2_with (at_builtin; go_must (refine wpList_app rfl (.tmp 66) (.tmp 70) _ rfl w.heap.size 80 i3 _ 2 8 Tryz.underlying37 hi3 hzc1 hzc2 hzc3 rfl (by omega) zA zn zc (s.map encR) rfl (hoz.alloc _) _ 1 1 [encR (m, y2)] rfl rfl (Rd.newAt (by simp) rfl) (encR_ok [(m, y2)]) (by unfold maxLen; omega) (by omega) (by simp; omega) ?_); intro A3 c3 w6 ho6 hg6 hA6; have HLg := PW5.longer Hz.out Hs.out (t := s ++ [(m, y2)]) (by rw [List.map_append]; exact ho6) hg6 hA6 hB5; have m1 := HLg.1; have m2 := HLg.2.1; have k26 := (HLg.2.2.1.x.cellRd Hx.out).2.1; have k56 := (HLg.2.2.1.y.cellRd Hy.out).2.1)
          go_roundw
          case rel => exact ⟨y2 + 1, i, j + 1, T, S.set k (s ++ [(m, y2)]), g1, n1, c1, g2, c2, xs.set k (A3, zn + 1, c3), _, _, ux, uy - 1, rfl, rfl, rfl, by rw [show ny - (j + 1) = ny - j - 1 by omega], by go_num, by omega, by omega, hux, by omega, fun _ => rfl, fun h => by rw [if_neg (by omega), show j * 3 + 3 = (j + 1) * 3 by omega], HG, HLg.2.2.1, HB5.trans (HLg.2.2.2.mono (Nat.le_refl _))⟩
          case measure => simp only []; omega
        · have HG := pairsG_new HP.out Hx.out Hy.out HN'.out (show y2 = min x2 y2 by omega) hnot
          rw [if_neg (show ¬ x2 = y2 by omega), if_pos rfl] at HG
          have HG := Lib.hid HG
          have HxsL : Hid (xs.length = n1) := Lib.hid Hxs
          have HSL : Hid (S.length = n1) := Lib.hid HS
          clear hnot HT Hxs HS HXl HYl
          go_wp2_with (first
            | (at_builtin; refine wpList_app rfl (.tmp 54) (.tmp 56) _ rfl w.heap.size 104 i1 _ 2 16 Tryz.underlying100 hi1 hza1 hza2 hza3 rfl (by omega) (some ⟨g1, 0, none⟩) n1 c1 (T.map encTwo) rfl (PW5.two.alloc _) _ 1 1 [encTwo (x3, y3)] rfl rfl (Rd.newAt (by simp) rfl) (encTwo_ok [(x3, y3)]) (by unfold maxLen; omega) (by omega) (by simp; omega) ?_; intro A7 c7 w7 ho7 hg7 hA7; have hz7 : w.heap.size ≤ w7.heap.size := Nat.le_trans hB5 (Nat.le_trans (by simp) hg7.size); have r7 := PW5.row.grown (grown_alloc hg7) (fun a ha e => by simp at e; exact PW5.two.apart PW5.row types_two.1 ⟨g1, 0, none⟩ a rfl ha e.symm))
            | (at_builtin; refine wpList_app rfl (.tmp 58) (.tmp 59) _ rfl w.heap.size 37 i2 _ 1 24 Tryz.underlying68 hi2 hzb1 hzb2 hzb3 rfl (by omega) (some ⟨g2, 0, none⟩) n1 c2 (xs.map encSl) rfl (r7.alloc _) _ 1 1 [encSl (none, 0, 0)] rfl rfl (Rd.newAt (by simp) rfl) (encSl_ok [(none, 0, 0)]) (by unfold maxLen; omega) (by omega) (by simp; omega) ?_; intro A8 c8 w8 ho8 hg8 hA8; obtain ⟨g3, g4, rfl, rfl, PW8, hb8⟩ := PW5.more (p := (x3, y3)) (by rw [List.map_append]; exact ho7) hg7 (by rw [List.map_append]; exact ho8) hg8 hA8 hB5; have hz8 : (xs ++ [((none : Option Addr), 0, 0)])[n1]? = some (none, 0, 0) := get_last HxsL.out; have hs8 : (S ++ [[]])[n1]? = some [] := get_last HSL.out; have cz := PW8.row.cell' rfl (k := n1) hz8; have hB8 := Nat.le_trans hB5 hb8.size; have hoz : Own w8 w.heap.size 80 2 none 0 0 (([] : List (Int × Int)).map encR) := Own.nil_ _ _ _ _; have Hz8 := Lib.hid hz8; have Hs8 := Lib.hid hs8; clear hz8 hs8)
            | (at_builtin; refine wpList_app rfl (.tmp 66) (.tmp 70) _ rfl w.heap.size 80 i3 _ 2 8 Tryz.underlying37 hi3 hzc1 hzc2 hzc3 rfl (by omega) none 0 0 (([] : List (Int × Int)).map encR) rfl (hoz.alloc _) _ 1 1 [encR (m, y2)] rfl rfl (Rd.newAt (by simp) rfl) (encR_ok [(m, y2)]) (by unfold maxLen; omega) (by omega) (by simp; omega) ?_; intro A3 c3 w6 ho6 hg6 hA6; have HLg := PW8.longer Hz8.out Hs8.out (t := [(m, y2)]) ho6 hg6 hA6 hB8; have m1 := HLg.1; have m2 := HLg.2.1; have k26 := (HLg.2.2.1.x.cellRd Hx.out).2.1; have k56 := (HLg.2.2.1.y.cellRd Hy.out).2.1))
          have HS9 : Hid ((S ++ [[]]).set n1 [(m, y2)] = S ++ [[(m, y2)]]) := Lib.hid (by rw [← HSL.out]; exact set_snoc S [] _)
          have PW9 := HLg.2.2.1
          rw [HS9.out] at PW9
          go_roundw
          case rel => exact ⟨y2 + 1, i, j + 1, T ++ [(x3, y3)], S ++ [[(m, y2)]], g3, n1 + 1, c7, g4, c8, (xs ++ [(none, 0, 0)]).set n1 (A3, 1, c3), _, _, ux, uy - 1, rfl, rfl, rfl, by rw [show ny - (j + 1) = ny - j - 1 by omega], by go_num, by omega, by omega, hux, by omega, fun _ => rfl, fun h => by rw [if_neg (by omega), show j * 3 + 3 = (j + 1) * 3 by omega], HG, PW9, (HB5.trans hb8).trans HLg.2.2.2⟩
          case measure => simp only []; omega
    · have HE := Lib.hid (pairEnd_of PW HO.out.1 HO.out.2.1 HO.out.2.2.1 HO.out.2.2.2 HP.out (by omega))
      clear HP HT Hxs HS HXl HYl
      rcases (by omega : ¬ i < nx ∨ (i < nx ∧ ¬ j < ny)) with h | ⟨h, h'⟩
      all_goals
        go_wp2
        go_ret2
        exact ⟨HE.out, HB⟩
end Go.Proofs.YtejccafolfeabaaGreatDoor

/-
  PLAIN: Cross, step by step, as both make it. No walk.
-/
namespace Go.Proofs.YtejccafolfeabaaGreatDoor

def crossN (a b : DbP) (T : List (Nat × Nat)) : List (List UInt8) := otherL :: T.tail.map (nmP a b)
def crossS (a b : DbP) (T : List (Nat × Nat)) : List (List (Int × Int)) := [] :: T.tail.map (setP a b)
/-- Cross of given pairs. -/
def crossT (a b : DbP) (T : List (Nat × Nat)) : Except Int DbP :=
  if 64 < T.length then .error 6
  else if T.tail.any fun p => decide (32 < (nmP a b p).length) then .error 40
  else if decide ((otherL :: T.tail.map (nmP a b)).Nodup) = false then .error 8
  else .ok ⟨otherL :: T.tail.map (nmP a b), [] :: T.tail.map (setP a b)⟩
theorem crossP_eq {a b : DbP} {T : List (Nat × Nat)} (h : twoP a b = T) : crossP a b = crossT a b T := by subst h; rfl
theorem crossT_many {a b : DbP} {T : List (Nat × Nat)} (h : 64 < T.length) : crossT a b T = .error 6 := by unfold crossT; rw [if_pos h]
theorem crossT_long {a b : DbP} {T : List (Nat × Nat)} (h : ¬ 64 < T.length) {p : Nat × Nat} (hp : p ∈ T.tail) (hl : 32 < (nmP a b p).length) : crossT a b T = .error 40 := by
  unfold crossT; rw [if_neg h, if_pos]
  rw [List.any_eq_true]; exact ⟨p, hp, decide_eq_true hl⟩
theorem crossT_short {a b : DbP} {T : List (Nat × Nat)} (h : ∀ p ∈ T.tail, ¬ 32 < (nmP a b p).length) : (T.tail.any fun p => decide (32 < (nmP a b p).length)) = false := by
  rw [List.any_eq_false]; intro p hp; simpa using h p hp
theorem crossT_twice {a b : DbP} {T : List (Nat × Nat)} (h : ¬ 64 < T.length) (hs : ∀ p ∈ T.tail, ¬ 32 < (nmP a b p).length) (hn : ¬ (crossN a b T).Nodup) : crossT a b T = .error 8 := by
  unfold crossT; rw [if_neg h, crossT_short hs, if_neg (by simp), if_pos]
  exact decide_eq_false hn
theorem crossT_fine {a b : DbP} {T : List (Nat × Nat)} (h : ¬ 64 < T.length) (hs : ∀ p ∈ T.tail, ¬ 32 < (nmP a b p).length) (hn : (crossN a b T).Nodup) : crossT a b T = .ok ⟨crossN a b T, crossS a b T⟩ := by
  unfold crossT; rw [if_neg h, crossT_short hs, if_neg (by simp), if_neg]
  · rfl
  · show ¬ decide ((crossN a b T).Nodup) = false
    rw [decide_eq_true hn]; simp
theorem two_tail {T : List (Nat × Nat)} {i : Nat} : T.tail[i]? = T[i + 1]? := by rw [List.getElem?_tail]
theorem two_pos (a b : DbP) {T : List (Nat × Nat)} (h : twoP a b = T) : 0 < T.length := by
  have := two_split a b
  rw [h] at this
  rw [this]; simp
theorem crossN_len {a b : DbP} {T : List (Nat × Nat)} (h : 0 < T.length) : (crossN a b T).length = T.length := by
  unfold crossN; simp; omega
theorem crossS_len {a b : DbP} {T : List (Nat × Nat)} (h : 0 < T.length) : (crossS a b T).length = T.length := by
  unfold crossS; simp; omega
theorem crossN_at {a b : DbP} {T : List (Nat × Nat)} {i : Nat} {p : Nat × Nat} (h : T[i + 1]? = some p) : (crossN a b T)[i + 1]? = some (nmP a b p) := by
  unfold crossN; rw [List.getElem?_cons_succ, List.getElem?_map, two_tail, h]; rfl
theorem crossS_at {a b : DbP} {T : List (Nat × Nat)} {i : Nat} {p : Nat × Nat} (h : T[i + 1]? = some p) : (crossS a b T)[i + 1]? = some (setP a b p) := by
  unfold crossS; rw [List.getElem?_cons_succ, List.getElem?_map, two_tail, h]; rfl
theorem take_more {α : Type} {l : List α} {i : Nat} {x : α} (h : l[i]? = some x) : l.take (i + 1) = l.take i ++ [x] := by rw [List.take_add_one, h]; rfl
/-- How far the program has come: i pairs behind the first. -/
structure CrossAt (a b : DbP) (T : List (Nat × Nat)) (i : Nat) (N : List (List UInt8)) (S : List (List (Int × Int))) (lo tw : Bool) : Prop where
  names : N = (crossN a b T).take (i + 1)
  sets : S = (crossS a b T).take (i + 1)
  long : lo = true ↔ ∃ p ∈ T.tail.take i, 32 < (nmP a b p).length
  twice : tw = true ↔ ¬ N.Nodup
theorem cross_at0 (a b : DbP) (T : List (Nat × Nat)) : CrossAt a b T 0 [otherL] [[]] false false := ⟨rfl, rfl, by simp, by simp⟩
theorem cross_next {a b : DbP} {T : List (Nat × Nat)} {i : Nat} {N : List (List UInt8)} {S : List (List (Int × Int))} {lo tw : Bool} {p : Nat × Nat} (h : CrossAt a b T i N S lo tw) (hp : T[i + 1]? = some p) :
    CrossAt a b T (i + 1) (N ++ [nmP a b p]) (S ++ [setP a b p]) (lo || decide (32 < (nmP a b p).length)) (tw || decide (nmP a b p ∈ N)) := by
  refine ⟨by rw [take_more (crossN_at hp), h.names], by rw [take_more (crossS_at hp), h.sets], ?_, ?_⟩
  · rw [take_more (two_tail.trans hp), Bool.or_eq_true, h.long, decide_eq_true_iff]
    constructor
    · rintro (⟨q, hq, hl⟩ | hl)
      · exact ⟨q, List.mem_append.2 (.inl hq), hl⟩
      · exact ⟨p, by simp, hl⟩
    · rintro ⟨q, hq, hl⟩
      rcases List.mem_append.1 hq with hq | hq
      · exact .inl ⟨q, hq, hl⟩
      · rw [List.mem_singleton] at hq; subst hq; exact .inr hl
  · rw [Bool.or_eq_true, h.twice, decide_eq_true_iff, List.nodup_append]
    constructor
    · rintro (hn | hn)
      · exact fun hh => hn hh.1
      · exact fun hh => hh.2.2 _ hn _ (by simp) rfl
    · intro hn
      by_cases h1 : nmP a b p ∈ N
      · exact .inr h1
      · refine .inl fun h2 => hn ⟨h2, by simp, fun u hu v hv e => ?_⟩
        rw [List.mem_singleton] at hv; subst hv; subst e; exact h1 hu
theorem cross_endAt {a b : DbP} {T : List (Nat × Nat)} {i : Nat} {N : List (List UInt8)} {S : List (List (Int × Int))} {lo tw : Bool} (h : CrossAt a b T i N S lo tw) (h0 : 0 < T.length) (h64 : ¬ 64 < T.length) (hi : T.length ≤ i + 1) :
    N = crossN a b T ∧ S = crossS a b T ∧ (lo = true → crossT a b T = .error 40) ∧ (lo = false → tw = true → crossT a b T = .error 8) ∧ (lo = false → tw = false → crossT a b T = .ok ⟨N, S⟩) := by
  have hN : N = crossN a b T := by rw [h.names, List.take_of_length_le (by rw [crossN_len h0]; omega)]
  have hS : S = crossS a b T := by rw [h.sets, List.take_of_length_le (by rw [crossS_len h0]; omega)]
  have hT : T.tail.take i = T.tail := List.take_of_length_le (by rw [List.length_tail]; omega)
  have hl := h.long; rw [hT] at hl
  have ht := h.twice; rw [hN] at ht
  have hsh : lo = false → ∀ p ∈ T.tail, ¬ 32 < (nmP a b p).length := fun e p hp hh => by
    have := hl.2 ⟨p, hp, hh⟩; rw [e] at this; cases this
  refine ⟨hN, hS, fun e => ?_, fun e1 e2 => crossT_twice h64 (hsh e1) (ht.1 e2), fun e1 e2 => ?_⟩
  · obtain ⟨p, hp, hh⟩ := hl.1 e
    exact crossT_long h64 hp hh
  · rw [hN, hS]
    refine crossT_fine h64 (hsh e1) ?_
    refine Decidable.byContradiction fun hh => ?_
    have := ht.2 hh; rw [e2] at this; cases this
/- The document's way: all names first; then the tests. -/
def LongAt (a b : DbP) (T : List (Nat × Nat)) (i : Nat) : Prop := ∀ p ∈ T.tail.take i, ¬ 32 < (nmP a b p).length
theorem long_at0 (a b : DbP) (T : List (Nat × Nat)) : LongAt a b T 0 := fun p hp => by simp at hp
theorem long_next {a b : DbP} {T : List (Nat × Nat)} {i : Nat} {p : Nat × Nat} (h : LongAt a b T i) (hp : T[i + 1]? = some p) (hs : ¬ 32 < (nmP a b p).length) : LongAt a b T (i + 1) := fun q hq => by
  rw [take_more (two_tail.trans hp)] at hq
  rcases List.mem_append.1 hq with hq | hq
  · exact h q hq
  · rw [List.mem_singleton] at hq; subst hq; exact hs
theorem long_end {a b : DbP} {T : List (Nat × Nat)} {i : Nat} (h : LongAt a b T i) (hi : T.length ≤ i + 1) : ∀ p ∈ T.tail, ¬ 32 < (nmP a b p).length := by
  have hT : T.tail.take i = T.tail := List.take_of_length_le (by rw [List.length_tail]; omega)
  unfold LongAt at h; rw [hT] at h; exact h
theorem two_mem {T : List (Nat × Nat)} {i : Nat} {p : Nat × Nat} (hp : T[i + 1]? = some p) : p ∈ T.tail := List.mem_of_getElem? (two_tail.trans hp)
def OnceAt (a b : DbP) (T : List (Nat × Nat)) (i : Nat) : Prop := ∀ (j : Nat) (n : List UInt8), j ≤ i → (crossN a b T)[j]? = some n → (crossN a b T).idxOf? n = some j
theorem once_at0 (a b : DbP) (T : List (Nat × Nat)) : OnceAt a b T 0 := fun j n hj hn => by
  obtain rfl : j = 0 := by omega
  unfold crossN at hn ⊢
  simp at hn; subst hn
  rw [List.idxOf?, List.findIdx?_cons]; simp
theorem once_next {a b : DbP} {T : List (Nat × Nat)} {i : Nat} {n : List UInt8} (h : OnceAt a b T i) (hn : (crossN a b T)[i + 1]? = some n) (hk : ((crossN a b T).idxOf? n).getD 0 = i + 1) : OnceAt a b T (i + 1) := fun j m hj hm => by
  by_cases e : j = i + 1
  · subst e
    rw [hn] at hm; injection hm with hm; subst hm
    cases hq : (crossN a b T).idxOf? n with
    | none => rw [hq] at hk; simp at hk
    | some k => rw [hq] at hk; simp at hk; rw [hk]
  · exact h j m (by omega) hm
theorem once_not {a b : DbP} {T : List (Nat × Nat)} {i : Nat} {n : List UInt8} (hn : (crossN a b T)[i + 1]? = some n) (hk : ((crossN a b T).idxOf? n).getD 0 ≠ i + 1) : ¬ (crossN a b T).Nodup := fun hh => by
  rw [idx_nodup.1 hh (i + 1) n hn] at hk
  exact hk rfl
theorem once_end {a b : DbP} {T : List (Nat × Nat)} {i : Nat} (h : OnceAt a b T i) (h0 : 0 < T.length) (hi : T.length ≤ i + 1) : (crossN a b T).Nodup :=
  idx_nodup.2 fun j n hn => h j n (by have := (List.getElem?_eq_some_iff.1 hn).1; rw [crossN_len h0] at this; omega) hn
end Go.Proofs.YtejccafolfeabaaGreatDoor

