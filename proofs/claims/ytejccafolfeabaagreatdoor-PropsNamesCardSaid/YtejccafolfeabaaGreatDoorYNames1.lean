/-
  Several texts in one, in their build order: WitP, Post, Va, Qa.
-/
import Derived.Test.YtejccafolfeabaaGreatDoorCards
import Derived.Test.YtejccafolfeabaaGreatDoorTie
import Derived.PinnedBridge
import Derived.Lib.LaidIn
import Derived.Lib.LaidU8
import Derived.Lib.LaidTab
import Derived.Lib.LaidCaseMet
import Derived.Shelf.Vars
import Derived.Deep.DeepHandedRow
import Derived.Deep.DeepWitnessRowRef
import Derived.ProofKit
import Derived.Carry
import Derived.ChangeSame
import Derived.OpenShut
import Derived.Deep.SlicePairs
import Derived.SizedLaws
import Derived.ChangeSlices
import Derived.Deep.DeepMust
import Derived.Test.YtejccafolfeabaaGreatDoorZ1
import Derived.Test.YtejccafolfeabaaGreatDoorZ2
import Derived.Test.YtejccafolfeabaaGreatDoorZ3
import Derived.Test.YtejccafolfeabaaGreatDoorZ4
/-
  WHAT THE LISTED VARIABLES GIVE (the tables of utf8); a world that bears them all, for the witness.
-/
namespace Go.Proofs.YtejccafolfeabaaGreatDoor
open Go.ChangeShapes Go.WideShapes Go.ChangeAt Go.RowKit Go.Lib Go.Shelf

theorem ownK : ownKnob Tryz.prog.godebug = none := by kernel_rfl
set_option maxRecDepth 100000 in
theorem accept_eq : (Rows.laid_unicode_utf8_acceptRanges : DataW Unit) = acceptData := by kernel_rfl
theorem tabs_of_laid {W : World} (hL : laidMetH Tryz.prog Rows.propsNamesRow.laid W) : Tabs W := by
  have h1 := laidMet.reads hL (.tail _ (.tail _ (.tail _ (.tail _ (.tail _ (.tail _ (.tail _ (.head _))))))))
  have h2 := laidMet.reads hL (.tail _ (.tail _ (.tail _ (.head _))))
  rw [show (Rows.laid_unicode_utf8_first : DataW Unit) = firstData from Pinned.utf8First_eq] at h1
  rw [accept_eq] at h2
  exact utf8Tabs_of_reads (ρ := Tryz.lays260_ren) { Tryz.lays260 with } ⟨by kernel_rfl, by kernel_rfl, by kernel_rfl, by kernel_rfl, by kernel_rfl, by kernel_rfl, by kernel_rfl⟩ h1 h2

def deB64 : List Int := [0, 1, 56, 2, 57, 49, 28, 3, 61, 58, 42, 50, 38, 29, 17, 4, 62, 47, 59, 36, 45, 43, 51, 22, 53, 39, 33, 30, 24, 18, 12, 5, 63, 55, 48, 27, 60, 41, 37, 16, 46, 35, 44, 21, 52, 32, 23, 11, 54, 26, 40, 15, 34, 20, 31, 10, 25, 14, 19, 9, 13, 8, 7, 6]
theorem tabB_of_laid {W : World} (hL : laidMetH Tryz.prog Rows.propsNamesRow.laid W) : TabB W := by
  have h := laidMet.reads hL (.tail _ (.head _))
  rw [show (Rows.laid_math_bits_deBruijn64tab : DataW Unit) = tabData .u8 deB64 by kernel_rfl] at h
  obtain ⟨g, t, cs, fuel, p, hg, hty, hvar, hd⟩ := h
  obtain rfl := Option.some.inj ((show Tryz.prog.globalNamed "math/bits.deBruijn64tab" = some 6 by kernel_rfl).symm.trans hg)
  obtain rfl := Option.some.inj ((show (Tryz.prog.globals[(6 : Nat)]?).map (·.type) = some 252 by kernel_rfl).symm.trans hty)
  have hcs := cells_of_tab Tryz.underlying252 Tryz.underlying5 (by kernel_rfl) (by kernel_rfl) hd
  have := World.var?_cell hg hvar 15
  unfold TabB
  rw [this, ← Array.getElem?_toList, hcs]; rfl

theorem env_of_laid {W : World} (hL : laidMetH Tryz.prog Rows.propsNamesRow.laid W) (hS : W.ShapedOpen Tryz.prog) : Env W :=
  ⟨tabs_of_laid hL, cell_of_shapedOpen_int hS (g := 0) (t := 3) (zero := #[.int .i64 0]) (of_decide_eq_true (by kernel_rfl)) (by kernel_rfl) rfl (by kernel_rfl) (by kernel_rfl) Tryz.underlying3, tabB_of_laid hL⟩

/-- THE WITNESS's WORLD: the settled one with three blocks more (the two errors' structs; the rows of the table of cases); the variables hold what their initialisers lay. -/
noncomputable def laidWorld (os : Os) : World :=
  let N := (World.settled Tryz.prog os).heap.size
  let w0 := World.holding Tryz.prog os ⟨#[.cells #[.string ⟨#[118, 97, 108, 117, 101, 32, 111, 117, 116, 32, 111, 102, 32, 114, 97, 110, 103, 101]⟩] 259, .cells #[.string ⟨#[105, 110, 118, 97, 108, 105, 100, 32, 115, 121, 110, 116, 97, 120]⟩] 259, .cells Lib.caseCells5 250], #[], []⟩
  let put (h : Array Obj) (g : Nat) (cs : Array Value) : Array Obj := h.modify g fun
    | .cells _ t frozen => .cells cs t frozen
    | o => o
  let h1 := put w0.heap 1 (firstTab.map fun z => Value.int .u8 z).toArray
  let h2 := put h1 2 ((List.range 16).flatMap fun i => [Value.int .u8 (accLo i), Value.int .u8 (accHi i)]).toArray
  let h3 := put h2 7 #[.iface 257 (.pointer (some ⟨N + 1, 0, none⟩))]
  let h4 := put h3 8 #[.iface 257 (.pointer (some ⟨N, 0, none⟩))]
  let h5 := put h4 4 ((List.range 20).map fun i => Value.int .u64 (10 ^ i : Nat)).toArray
  let h6 := put h5 5 ([0, 1, 28, 2, 29, 14, 24, 3, 30, 22, 20, 15, 25, 17, 4, 8, 31, 27, 13, 23, 21, 19, 16, 7, 26, 12, 18, 6, 11, 5, 10, 9].map fun (z : Int) => Value.int .u8 z).toArray
  let h7 := put h6 6 ([0, 1, 56, 2, 57, 49, 28, 3, 61, 58, 42, 50, 38, 29, 17, 4, 62, 47, 59, 36, 45, 43, 51, 22, 53, 39, 33, 30, 24, 18, 12, 5, 63, 55, 48, 27, 60, 41, 37, 16, 46, 35, 44, 21, 52, 32, 23, 11, 54, 26, 40, 15, 34, 20, 31, 10, 25, 14, 19, 9, 13, 8, 7, 6].map fun (z : Int) => Value.int .u8 z).toArray
  let h8 := put h7 3 #[.slice (some ⟨N + 2, 0, none⟩) Lib.caseA.size Lib.caseA.size]
  { w0 with heap := h8 }
/-- A world in which the variable holds a slice of the table's cells reads as the table: the table's own row of 'laid'. -/
theorem caseIn {P : Program} {ρ : Go.Shelf.Ren} (L : Go.Proofs.Lays.n274 P ρ) (t206 : P.underlying (ρ.t 206) = some (.array 3 (ρ.t 21))) (X : CaseExtra P ρ) {w : World} (R : Nat) (t : TypeId) (hgR : ρ.g 13 ≠ R)
    (hvar : w.heap[ρ.g 13]? = some (.cells #[.slice (some ⟨R, 0, none⟩) caseA.size caseA.size] (ρ.t 162) (0, 0)))
    (hblk : w.heap[R]? = some (.cells caseCells5 t (0, 0))) : LaidIn P w [("unicode.CaseRanges", caseData)] [ρ.g 13, R] := by
  have hT := caseTab_of_block hblk
  have hread := case_slice_reads L t206 X hT caseA_wf (by rw [caseA_size]; unfold maxLen; omega) 0
  rw [case_rows_data] at hread
  have hv : w.var? P "unicode.CaseRanges" = some #[.slice (some ⟨R, 0, none⟩) caseA.size caseA.size] := by simp [World.var?, X.n13, hvar]
  refine LaidIn.one _ X.n13 X.y13 hv hread ?_ (fun b off hp => ?_) (fun x hx => ?_)
  · refine List.nodup_append.2 ⟨row_nodup _ _, row_nodup _ _, ?_⟩
    intro a ha b hb e
    obtain ⟨i, _, rfl⟩ := MemPlace.mem_row.1 ha
    obtain ⟨j, _, rfl⟩ := MemPlace.mem_row.1 hb
    simp at e
    exact hgR e.1
  · rcases List.mem_append.1 hp with hp | hp
    · obtain ⟨i, hi, e⟩ := MemPlace.mem_row.1 hp
      cases e
      refine ⟨⟨_, _, hvar⟩, fun u v hc => ?_⟩
      obtain rfl : i = 0 := by simp at hi; omega
      rw [Lib.cell_of_heap hvar] at hc
      simp at hc
    · obtain ⟨i, hi, e⟩ := MemPlace.mem_row.1 hp
      cases e
      refine ⟨⟨_, _, hblk⟩, fun u v hc => ?_⟩
      obtain ⟨c0, c1, c2, c3, c4⟩ := hT (i / 5) (by omega)
      have hi5 : 0 + i = 0 + i / 5 * 5 + i % 5 := by omega
      simp only at hc
      rw [hi5] at hc
      have hm : i % 5 < 5 := Nat.mod_lt _ (by omega)
      match hk : i % 5, hm with
      | 0, _ => rw [hk, Nat.add_zero, c0] at hc; cases hc
      | 1, _ => rw [hk, c1] at hc; cases hc
      | 2, _ => rw [hk, c2] at hc; cases hc
      | 3, _ => rw [hk, c3] at hc; cases hc
      | 4, _ => rw [hk, c4] at hc; cases hc
  · rcases List.mem_append.1 hx with hx | hx
    · obtain ⟨i, _, rfl⟩ := MemPlace.mem_row.1 hx; simp [MemPlace.block]
    · obtain ⟨i, _, rfl⟩ := MemPlace.mem_row.1 hx; simp [MemPlace.block]
/-- The numbers of the table's types here, and its variable's. -/
def renC : Go.Shelf.Ren := ⟨Tryz.lays274_ren.f, Tryz.lays274_ren.t, fun _ => 3⟩
set_option maxRecDepth 1000000 in
theorem laid_in (os : Os) (args : Array Value) : LaidIn Tryz.prog ((laidWorld os).forCall (fun _ _ => 0) ⟨#[], args, []⟩).memory Rows.propsNamesRow.laid ([2, 7, 8, 4, 5, 6, (World.settled Tryz.prog default).heap.size, (World.settled Tryz.prog default).heap.size + 1] ++ ([3, (World.settled Tryz.prog default).heap.size + 2] ++ [1])) := by
  have h1 : LaidIn Tryz.prog ((laidWorld os).forCall (fun _ _ => 0) ⟨#[], args, []⟩).memory (Rows.propsNamesRow.laid.take 6) [2, 7, 8, 4, 5, 6, (World.settled Tryz.prog default).heap.size, (World.settled Tryz.prog default).heap.size + 1] :=
    LaidIn.of_run _ 8 (by kernel_rfl) (by kernel_rfl) (by kernel_rfl) (by kernel_rfl)
  have h2 : LaidIn Tryz.prog ((laidWorld os).forCall (fun _ _ => 0) ⟨#[], args, []⟩).memory [("unicode.CaseRanges", Rows.laid_unicode_CaseRanges)] [3, (World.settled Tryz.prog default).heap.size + 2] := by
    rw [show (Rows.laid_unicode_CaseRanges : DataW Unit) = caseData from Pinned.caseRanges_eq]
    exact caseIn (ρ := renC) { Tryz.lays274 with } (by kernel_rfl) ⟨by kernel_rfl, by kernel_rfl, by kernel_rfl, by kernel_rfl, by kernel_rfl, by kernel_rfl⟩ ((World.settled Tryz.prog default).heap.size + 2) 250 (of_decide_eq_true (by kernel_rfl)) (by kernel_rfl) (by kernel_rfl)
  have h3 : LaidIn Tryz.prog ((laidWorld os).forCall (fun _ _ => 0) ⟨#[], args, []⟩).memory [("unicode/utf8.first", Rows.laid_unicode_utf8_first)] [1] :=
    LaidIn.of_run _ 8 (by kernel_rfl) (by kernel_rfl) (by kernel_rfl) (by kernel_rfl)
  exact LaidIn.append h1 (LaidIn.append h2 h3 (by kernel_rfl)) (by kernel_rfl)
end Go.Proofs.YtejccafolfeabaaGreatDoor

/-
  THE LAST STEP OF A LAW's ROW: it answers true, and nothing that lay has turned; an argument that is a list of ranges, opened. No walk.
-/
namespace Go.Proofs.YtejccafolfeabaaGreatDoor
open Go.ChangeShapes Go.WideShapes Go.ChangeAt Go.RowKit

section
variable {H : Type} {enc : TypeId × Value → H} {P : Program}
theorem trodAll_stays {W W' : World} {sp' : Nat → Bool} (hl : laidOutB P = true) : ∀ {ts : List TypeId} {vs : List Value} {ds : List (DataW H)} {ps : List MemPlace}, (∀ t ∈ ts, P.readableRec t = true ∧ t < P.types.size) →
    DataW.TrodAll enc P W 0 (fun _ => true) true ts vs ds ps → (∀ p ∈ ps, W.sameAt W' p) → (∀ p ∈ ps, sp' p.block = true) → DataW.TrodAll enc P W' 0 sp' true ts vs ds ps
  | [], vs, ds, ps, _, h, _, _ => by
    obtain ⟨rfl, rfl, rfl⟩ := trodAll_nil h
    exact trodAll_mk0
  | t :: ts, vs, ds, ps, ht, h, h1, h2 => by
    obtain ⟨v, vs', d, ds', p, q, rfl, rfl, rfl, h0, hr⟩ := trodAll_cons h
    exact trodAll_cons_mk (WideElems.Trod_stays hl (ht t (by simp)).1 (ht t (by simp)).2 h0 (fun x hx => h1 x (by simp [hx])) (fun x hx => h2 x (by simp [hx])))
      (trodAll_stays hl (fun u hu => ht u (by simp [hu])) hr (fun x hx => h1 x (by simp [hx])) (fun x hx => h2 x (by simp [hx])))
/-- A law that answers true and turns nothing that lay. -/
theorem post_law {f : Func} {s : ChangeSpec} {apart fresh handsOn again : Bool} {W W' : World} {args : Array Value} {ds gs : List (DataW H)} {before : List MemPlace} {tb : TypeId}
    (hl : laidOutB P = true) (hps : (f.params.toList.all fun t => P.readableRec t && decide (t < P.types.size)) = true) (hres : f.resultTypes = #[tb]) (htb : P.underlying tb = some .bool) (hv : s.vars = [])
    (hfn : ∀ (gs' : List (DataW H)), gs' = [] → s.fn H (ds ++ gs') = { results := [.lit (.bool true)], args := ds })
    (hW : DataW.Whole enc P f.params.toList s.vars apart W args.toList ds gs before) (hb : Below W.heap.size W W') :
    s.post enc P f apart fresh handsOn again W args (.bool true) W' := by
  have hlt : ∀ p ∈ before, p.block < W.heap.size := fun p hp => hW.lt p hp
  have hW' := hW
  obtain ⟨p, q, hA, hV, rfl, hfz, hnd⟩ := hW'
  have hA' : DataW.TrodAll enc P W 0 (fun _ => true) true f.params.toList args.toList ds p := hA
  rw [hv] at hV
  obtain ⟨rfl, rfl⟩ := trodVars_none hV
  have hpr : ∀ t ∈ f.params.toList, P.readableRec t = true ∧ t < P.types.size := fun t ht => by
    have := List.all_eq_true.1 hps t ht
    simpa using this
  have hres' : ∀ (b : Nat) (sp : Nat → Bool) (hd : Bool), DataW.TrodAll enc P W' b sp hd f.resultTypes.toList ((Value.bool true).resultList f.resultTypes.size) (s.fn H (ds ++ [])).results [] := fun b sp hd => by
    rw [hres, hfn [] rfl]
    exact trodAll_cons_mk (shut_bool htb _) trodAll_mk0
  have hargs : ∀ sp : Nat → Bool, (∀ x ∈ p ++ [], sp x.block = true) → DataW.TrodAll enc P W' 0 sp true f.params.toList args.toList (s.fn H (ds ++ [])).args p := fun sp hsp => by
    rw [hfn [] rfl]
    exact trodAll_stays hl hpr hA' (fun x hx => hb.same (hlt x (by simp [hx]))) (fun x hx => hsp x (by simp [hx]))
  have hvars : ∀ sp : Nat → Bool, DataW.TrodVars enc P W' sp s.vars (s.fn H (ds ++ [])).vars [] := fun sp => by
    rw [hv, hfn [] rfl]
    exact rfl
  have hold : ∀ x ∈ p ++ [], (fun b => decide (b < W.heap.size)) x.block = true := fun x hx => by simpa using hlt x hx
  refine ⟨ds, [], p ++ [], [], p, [], hW, hres' _ _ _, hargs _ hold, hvars _, World.keptBut_mono (fun x hx => ⟨hx, ?_⟩) (hb.frame (· ∈ p ++ [])), fun _ => ?_⟩
  · simpa using hx
  · refine ⟨?_, _, _, ([] ++ p) ++ [], ⟨[] ++ p, [], trodAll_append (hargs _ (fun _ _ => rfl)) (hres' _ _ _), hvars _, rfl, ?_, ?_⟩, ?_⟩
    · exact ok_one hres rfl (okWide_bool_mk htb _)
    · intro b off hp
      have hin : MemPlace.cell b off ∈ p ++ [] := by simpa using hp
      rw [hb.frozen (hlt _ hin)]
      exact hfz b off hin
    · intro ha
      simpa using hnd ha
    · intro x hx _
      simpa using hx
end

theorem cellsR : Tryz.prog.cellsOf 80 = 2 := by kernel_rfl
theorem cellsI32 : Tryz.prog.cellsOf 21 = 1 := by kernel_rfl
set_option maxRecDepth 100000 in
/-- An argument that is a list of ranges. -/
theorem open_ranges {H : Type} {enc : TypeId × Value → H} {W : World} {r : Reach} {b0 : Nat} {v : Value} {d : DataW H} {p : List MemPlace} (hv : Value.okWide Tryz.prog W r b0 37 v) (hd : DataW.Trod enc Tryz.prog W 0 (fun _ => true) true 37 v d p) :
    ∃ (A : Option Addr) (n c : Nat) (l : List (Int × Int)), v = .slice A n c ∧ Rd W 2 A (l.map encR) ∧ l.length = n ∧ n ≤ maxLen ∧ (n = 0 ∨ ∃ el sp, d = .slice el sp ∧ el.length = n) ∧ ∀ x ∈ l, (-2147483648 ≤ x.1 ∧ x.1 ≤ 2147483647) ∧ (-2147483648 ≤ x.2 ∧ x.2 ≤ 2147483647) := by
  obtain ⟨A, n, c, rfl⟩ := okWide_slice Tryz.underlying37 hv
  obtain ⟨fuel, hf⟩ := hd
  rcases Go.Deep.open_slice_pairs Tryz.underlying37 Tryz.underlying80 cellsR rfl rfl cellsI32 cellsI32 hf with ⟨hc, _⟩ | ⟨a, len, cap, m, k, V0, V1, D0, D1, P0, P1, hc, _, hl, hm, hmm, hxd, hx⟩
  · simp [Value.cells] at hc
    obtain ⟨rfl, rfl, rfl⟩ := hc
    exact ⟨none, 0, 0, [], rfl, Rd.nil_ _ _ _, rfl, by unfold maxLen; omega, Or.inl rfl, by simp⟩
  · simp [Value.cells] at hc
    obtain ⟨rfl, rfl, rfl⟩ := hc
    have hmn : m = c := by simpa using hmm
    have key : ∀ i, i < n → ∃ lo hi : Int, W.cell? (a.add (i * 2)) = some (.int .i32 lo) ∧ W.cell? (a.add (i * 2 + 1)) = some (.int .i32 hi) ∧ (-2147483648 ≤ lo ∧ lo ≤ 2147483647) ∧ (-2147483648 ≤ hi ∧ hi ≤ 2147483647) := by
      intro i hi
      obtain ⟨h0, h1, h2, h3⟩ := hx i (by omega)
      obtain ⟨lo, e0, _, w0⟩ := DataW.trod_int Tryz.underlying21 h2
      obtain ⟨hi', e1, _, w1⟩ := DataW.trod_int Tryz.underlying21 h3
      simp at e0 e1
      rw [e0] at h0; rw [e1] at h1
      exact ⟨lo, hi', h0, h1, bounds_i32 w0, bounds_i32 w1⟩
    obtain ⟨f, hf2⟩ : ∃ f : Nat → Int × Int, ∀ i, i < n → W.cell? (a.add (i * 2)) = some (.int .i32 (f i).1) ∧ W.cell? (a.add (i * 2 + 1)) = some (.int .i32 (f i).2) ∧ (-2147483648 ≤ (f i).1 ∧ (f i).1 ≤ 2147483647) ∧ (-2147483648 ≤ (f i).2 ∧ (f i).2 ≤ 2147483647) :=
      ⟨fun i => if h : i < n then (Classical.choose (key i h), Classical.choose (Classical.choose_spec (key i h))) else (0, 0), fun i hi => by
        simp only [dif_pos hi]
        exact Classical.choose_spec (Classical.choose_spec (key i hi))⟩
    clear key hx
    refine ⟨some a, n, c, (List.range n).map f, rfl, ?_, by simp, by omega, Or.inr ⟨_, _, congrArg Prod.fst hxd, by simp⟩, ?_⟩
    · intro hne
      have hn0 : 0 < n := by
        rcases Nat.eq_zero_or_pos n with h | h
        · subst h; simp at hne
        · exact h
      obtain ⟨b, off, spot⟩ := a
      have hsp : spot = none := by
        have h0 := (hf2 0 hn0).1
        simpa [Addr.add] using World.cell?_spot h0
      subst hsp
      have ea : ∀ q, (⟨b, off, none⟩ : Addr).add q = ⟨b, off + q, none⟩ := fun q => by
        unfold Addr.add; split
        · rename_i hq; subst hq; rfl
        · rfl
      refine ⟨b, off, rfl, fun i j x u hi hj => ?_⟩
      have hin : i < n := by
        have := (List.getElem?_eq_some_iff.1 hi).1
        simpa using this
      have hxe : encR (f i) = x := by
        simp [hin] at hi; exact hi
      subst hxe
      obtain ⟨h0, h1, _⟩ := hf2 i hin
      rw [ea] at h0 h1
      match j, hj with
      | 0, hj => simp [encR] at hj; subst hj; simpa using h0
      | 1, hj => simp [encR] at hj; subst hj; simpa [Nat.add_assoc] using h1
    · intro x hx'
      obtain ⟨i, hi, rfl⟩ := List.mem_map.1 hx'
      have := hf2 i (List.mem_range.1 hi)
      exact ⟨this.2.2.1, this.2.2.2⟩
/-- A list of ranges that the reach holds is no longer than 2^44. -/
theorem sized_ranges {H : Type} {ts : List TypeId} {ds : List (DataW H)} (h : (DataW.weightsEach Tryz.prog ts ds).all (· ≤ reachBytes) = true) {j : Nat} {d : DataW H} {n : Nat} (ht : ts[j]? = some 37) (hd : ds[j]? = some d)
    (hn : n = 0 ∨ ∃ el sp, d = .slice el sp ∧ el.length = n) : n ≤ 17592186044416 := by
  rcases hn with rfl | ⟨el, sp, rfl, rfl⟩
  · omega
  · have h1 := sized_slice h ht hd Tryz.underlying37
    rw [show Tryz.prog.bytesOf 80 = 8 by kernel_rfl] at h1
    have h2 := reachBytes_lt
    simp only [Nat.reducePow] at h2
    omega
set_option maxRecDepth 100000 in
/-- An argument that is a list of runes. -/
theorem open_runes {H : Type} {enc : TypeId × Value → H} {W : World} {r : Reach} {b0 : Nat} {v : Value} {d : DataW H} {p : List MemPlace} (hv : Value.okWide Tryz.prog W r b0 24 v) (hd : DataW.Trod enc Tryz.prog W 0 (fun _ => true) true 24 v d p) :
    ∃ (A : Option Addr) (n c : Nat) (q : List Int), v = .slice A n c ∧ Rd W 1 A (q.map fun r => [.int .i32 r]) ∧ q.length = n ∧ n ≤ maxLen := by
  obtain ⟨A, n, c, rfl⟩ := okWide_slice Tryz.underlying24 hv
  obtain ⟨fuel, hf⟩ := hd
  rcases Go.ChangeShapes.open_ints Tryz.underlying24 Tryz.underlying21 cellsI32 hf with ⟨hc, _⟩ | ⟨a, len, cap, zs, hc, _, hl, hm, hzl, _, hx, _⟩
  · simp [Value.cells] at hc
    obtain ⟨rfl, rfl, rfl⟩ := hc
    exact ⟨none, 0, 0, [], rfl, Rd.nil_ _ _ _, rfl, by unfold maxLen; omega⟩
  · simp [Value.cells] at hc
    obtain ⟨rfl, rfl, rfl⟩ := hc
    have hzc : zs.length = c := by simpa using hzl
    refine ⟨some a, n, c, zs.take n, rfl, ?_, by simp; omega, by omega⟩
    intro hne
    have hn0 : 0 < n := by
      rcases Nat.eq_zero_or_pos n with h | h
      · subst h; simp at hne
      · exact h
    obtain ⟨b, off, spot⟩ := a
    have hsp : spot = none := by
      have h0 := hx 0 (by omega)
      simpa [Addr.add] using World.cell?_spot h0
    subst hsp
    have ea : ∀ q, (⟨b, off, none⟩ : Addr).add q = ⟨b, off + q, none⟩ := fun q => by
      unfold Addr.add; split
      · rename_i hq; subst hq; rfl
      · rfl
    refine ⟨b, off, rfl, fun i j x u hi hj => ?_⟩
    have hin : i < n := by
      have := (List.getElem?_eq_some_iff.1 hi).1
      simp at this; omega
    have hxe : [Value.int .i32 (zs.getD i 0)] = x := by
      rw [List.getElem?_map, List.getElem?_take_of_lt hin] at hi
      rw [List.getD_eq_getElem?_getD]
      rcases hz : zs[i]? with _ | z
      · rw [hz] at hi; simp at hi
      · rw [hz] at hi; simpa using hi
    subst hxe
    have h0 := hx i (by omega)
    rw [ea] at h0
    match j, hj with
    | 0, hj => simp at hj; subst hj; simpa using h0
end Go.Proofs.YtejccafolfeabaaGreatDoor

/-
  kerfref04: Name, walked.
-/
namespace Go.Proofs.YtejccafolfeabaaGreatDoor
open Go.RowKit Go.Maps

set_option maxRecDepth 100000 in
set_option maxHeartbeats 4000000 in
theorem vName_any (l : List UInt8) (w : World) (hs : l.length ≤ 9223372036854775807) : Calls Tryz.prog 11 #[.string (bytesOf l)] w fun e w' => e = .returned (.bool (nameL l)) ∧ Below w.heap.size w w' := by
  have hsz : (bytesOf l).size = l.length := bytesOf_size l
  go_enter Tryz.func11, Tryz.ntmps11
  go_wp2
  have hbw : Below w.heap.size w w := Below.refl _ _
  go_loop [3] (fun i => ∃ k : Nat, i = .int .i64 k ∧ k ≤ l.length ∧ Hid (nameU (l.take k) = true)) (fun i => l.length - (intOf i).toNat)
  case atStart => exact ⟨0, rfl, by omega, rfl⟩
  case round =>
    obtain ⟨k, rfl, hk, Hm⟩ := hrel
    by_cases hlt : k < l.length
    · have hkl : k < (bytesOf l).size := by rw [hsz]; exact hlt
      have hc := index_at (bytesOf l) k k rfl hkl
      obtain ⟨c, hce⟩ : ∃ c, (bytesOf l)[k]'hkl = c := ⟨_, rfl⟩
      have Hc : Hid (l[k]? = some c) := Lib.hid (by have := get_list hkl; rw [bytesOf_list, hce] at this; exact this)
      have hcc : (((bytesOf l)[k]'hkl).toNat : Int) = (c.toNat : Int) := by rw [hce]
      rw [hce] at hc
      clear hce
      have HN := Lib.hid (nameU_next Hc.out Hm.out)
      have HE : Hid (nameU (l.take (k + 1)) = false → nameL l = false) := Lib.hid (fun h => by rw [nameL_eq, nameU_take h, Bool.false_and])
      have hc0 : 0 ≤ (c.toNat : Int) := by omega
      have hc255 : (c.toNat : Int) ≤ 255 := by have := c.toNat_lt; omega
      have HLT : Hid ((65 ≤ (c.toNat : Int) ∧ (c.toNat : Int) ≤ 90) ∨ (97 ≤ (c.toNat : Int) ∧ (c.toNat : Int) ≤ 122) → letB c = true ∧ partB c = true) := Lib.hid (fun h => ⟨letB_t (by omega), partB_t (by omega)⟩)
      have HLF : Hid (¬ ((65 ≤ (c.toNat : Int) ∧ (c.toNat : Int) ≤ 90) ∨ (97 ≤ (c.toNat : Int) ∧ (c.toNat : Int) ≤ 122)) → letB c = false) := Lib.hid (fun h => letB_f (by omega))
      have HPT : Hid ((48 ≤ (c.toNat : Int) ∧ (c.toNat : Int) ≤ 57) ∨ (c.toNat : Int) = 95 → partB c = true) := Lib.hid (fun h => partB_t (by omega))
      have HPF : Hid (¬ ((65 ≤ (c.toNat : Int) ∧ (c.toNat : Int) ≤ 90) ∨ (97 ≤ (c.toNat : Int) ∧ (c.toNat : Int) ≤ 122) ∨ (48 ≤ (c.toNat : Int) ∧ (c.toNat : Int) ≤ 57) ∨ (c.toNat : Int) = 95) → partB c = false) := Lib.hid (fun h => partB_f (by omega))
      generalize (c.toNat : Int) = z at hc hcc hc0 hc255 HLT HLF HPT HPF
      rcases Nat.eq_zero_or_pos k with rfl | h0
      · rcases (by omega : (65 ≤ z ∧ z ≤ 90) ∨ (97 ≤ z ∧ z ≤ 122) ∨ (z < 65 ∨ (90 < z ∧ z < 97) ∨ 122 < z)) with ⟨hq, hq'⟩ | ⟨hq, hq'⟩ | hq
        iterate 2
          · have HV : Hid (nameU (l.take (0 + 1)) = true) := Lib.hid (by rw [HN.out, if_pos rfl]; exact (HLT.out (by omega)).1)
            clear HLT HLF HPT HPF HN HE
            try first | (have d65 : decide (65 ≤ z) = true := decide_eq_true (by omega)) | (have d65 : decide (65 ≤ z) = false := decide_eq_false (by omega))
            try first | (have d90 : decide (z ≤ 90) = true := decide_eq_true (by omega)) | (have d90 : decide (z ≤ 90) = false := decide_eq_false (by omega))
            try first | (have d97 : decide (97 ≤ z) = true := decide_eq_true (by omega)) | (have d97 : decide (97 ≤ z) = false := decide_eq_false (by omega))
            try first | (have d122 : decide (z ≤ 122) = true := decide_eq_true (by omega)) | (have d122 : decide (z ≤ 122) = false := decide_eq_false (by omega))
            try first | (have d48 : decide (z < 48) = true := decide_eq_true (by omega)) | (have d48 : decide (z < 48) = false := decide_eq_false (by omega))
            try first | (have d57 : decide (57 < z) = true := decide_eq_true (by omega)) | (have d57 : decide (57 < z) = false := decide_eq_false (by omega))
            try first | (have d95 : (z != 95) = true := bne_iff_ne.2 (by omega)) | (have d95 : (z != 95) = false := by rw [bne_eq_false_iff_eq]; omega)
            go_wp2
            refine ⟨⟨0 + 1, by go_num, by omega, HV⟩, ?_⟩
            simp [intOf]; omega
        · have HV : Hid (nameL l = false) := Lib.hid (HE.out (by rw [HN.out, if_pos rfl]; exact HLF.out (by omega)))
          clear HLT HLF HPT HPF HN HE
          rcases hq with hq | ⟨hq, hq'⟩ | hq
          all_goals
            try first | (have d65 : decide (65 ≤ z) = true := decide_eq_true (by omega)) | (have d65 : decide (65 ≤ z) = false := decide_eq_false (by omega))
            try first | (have d90 : decide (z ≤ 90) = true := decide_eq_true (by omega)) | (have d90 : decide (z ≤ 90) = false := decide_eq_false (by omega))
            try first | (have d97 : decide (97 ≤ z) = true := decide_eq_true (by omega)) | (have d97 : decide (97 ≤ z) = false := decide_eq_false (by omega))
            try first | (have d122 : decide (z ≤ 122) = true := decide_eq_true (by omega)) | (have d122 : decide (z ≤ 122) = false := decide_eq_false (by omega))
            try first | (have d48 : decide (z < 48) = true := decide_eq_true (by omega)) | (have d48 : decide (z < 48) = false := decide_eq_false (by omega))
            try first | (have d57 : decide (57 < z) = true := decide_eq_true (by omega)) | (have d57 : decide (57 < z) = false := decide_eq_false (by omega))
            try first | (have d95 : (z != 95) = true := bne_iff_ne.2 (by omega)) | (have d95 : (z != 95) = false := by rw [bne_eq_false_iff_eq]; omega)
            go_wp2
            go_ret
            exact ⟨by rw [HV.out]; rfl, hbw⟩
      · have hk0 : ((k : Int) == 0) = false := beq_eq_false_iff_ne.2 (by omega)
        rcases (by omega : (65 ≤ z ∧ z ≤ 90) ∨ (97 ≤ z ∧ z ≤ 122) ∨ (48 ≤ z ∧ z ≤ 57) ∨ z = 95 ∨ (z < 48 ∨ (57 < z ∧ z < 65) ∨ (90 < z ∧ z < 95) ∨ z = 96 ∨ 122 < z)) with ⟨hq, hq'⟩ | ⟨hq, hq'⟩ | ⟨hq, hq'⟩ | hq | hq
        iterate 4
          · have HV : Hid (nameU (l.take (k + 1)) = true) := Lib.hid (by rw [HN.out, if_neg (by omega)]; first | exact (HLT.out (by omega)).2 | exact HPT.out (by omega))
            clear HLT HLF HPT HPF HN HE
            try first | (have d65 : decide (65 ≤ z) = true := decide_eq_true (by omega)) | (have d65 : decide (65 ≤ z) = false := decide_eq_false (by omega))
            try first | (have d90 : decide (z ≤ 90) = true := decide_eq_true (by omega)) | (have d90 : decide (z ≤ 90) = false := decide_eq_false (by omega))
            try first | (have d97 : decide (97 ≤ z) = true := decide_eq_true (by omega)) | (have d97 : decide (97 ≤ z) = false := decide_eq_false (by omega))
            try first | (have d122 : decide (z ≤ 122) = true := decide_eq_true (by omega)) | (have d122 : decide (z ≤ 122) = false := decide_eq_false (by omega))
            try first | (have d48 : decide (z < 48) = true := decide_eq_true (by omega)) | (have d48 : decide (z < 48) = false := decide_eq_false (by omega))
            try first | (have d57 : decide (57 < z) = true := decide_eq_true (by omega)) | (have d57 : decide (57 < z) = false := decide_eq_false (by omega))
            try first | (have d95 : (z != 95) = true := bne_iff_ne.2 (by omega)) | (have d95 : (z != 95) = false := by rw [bne_eq_false_iff_eq]; omega)
            go_wp2
            refine ⟨⟨k + 1, by go_num, by omega, HV⟩, ?_⟩
            simp [intOf]; omega
        · have HV : Hid (nameL l = false) := Lib.hid (HE.out (by rw [HN.out, if_neg (by omega)]; exact HPF.out (by omega)))
          clear HLT HLF HPT HPF HN HE
          rcases hq with hq | ⟨hq, hq'⟩ | ⟨hq, hq'⟩ | hq | hq
          all_goals
            try first | (have d65 : decide (65 ≤ z) = true := decide_eq_true (by omega)) | (have d65 : decide (65 ≤ z) = false := decide_eq_false (by omega))
            try first | (have d90 : decide (z ≤ 90) = true := decide_eq_true (by omega)) | (have d90 : decide (z ≤ 90) = false := decide_eq_false (by omega))
            try first | (have d97 : decide (97 ≤ z) = true := decide_eq_true (by omega)) | (have d97 : decide (97 ≤ z) = false := decide_eq_false (by omega))
            try first | (have d122 : decide (z ≤ 122) = true := decide_eq_true (by omega)) | (have d122 : decide (z ≤ 122) = false := decide_eq_false (by omega))
            try first | (have d48 : decide (z < 48) = true := decide_eq_true (by omega)) | (have d48 : decide (z < 48) = false := decide_eq_false (by omega))
            try first | (have d57 : decide (57 < z) = true := decide_eq_true (by omega)) | (have d57 : decide (57 < z) = false := decide_eq_false (by omega))
            try first | (have d95 : (z != 95) = true := bne_iff_ne.2 (by omega)) | (have d95 : (z != 95) = false := by rw [bne_eq_false_iff_eq]; omega)
            go_wp2
            go_ret
            exact ⟨by rw [HV.out]; rfl, hbw⟩
    · have HE : Hid (nameL l = decide (1 ≤ l.length ∧ l.length ≤ 32)) := Lib.hid (by rw [nameL_eq, show nameU l = true by have := Hm.out; rwa [List.take_of_length_le (by omega)] at this, Bool.true_and])
      rcases (by omega : l.length = 0 ∨ (1 ≤ l.length ∧ l.length ≤ 32) ∨ 32 < l.length) with h | ⟨h, h'⟩ | h
      all_goals
        go_wp2
        go_ret
        exact ⟨ret_bool (by rw [HE.out]; first | exact (decide_eq_false (by omega)).symm | exact (decide_eq_true (by omega)).symm | (rw [decide_eq_decide]; omega)), hbw⟩

end Go.Proofs.YtejccafolfeabaaGreatDoor

/-
  kerflaw04.PropsNames, walked.
-/
namespace Go.Proofs.YtejccafolfeabaaGreatDoor
open Go.RowKit Go.Maps

set_option maxRecDepth 100000 in
set_option maxHeartbeats 1000000 in
theorem qPropsNames_any (s : ByteArray) (w : World) (hE : Env w) (hs : s.size ≤ maxLen) : Calls Tryz.prog 3 #[.string s] w fun e w' => e = .returned (.bool true) ∧ Below w.heap.size w w' := by
  unfold maxLen at hs
  obtain ⟨l, rfl⟩ : ∃ l, s = bytesOf l := ⟨_, (bytesOf_data s).symm⟩
  rw [bytesOf_size] at hs
  have H1 := Lib.hid (fun W => wName_any l W hs)
  have H2 := Lib.hid (fun W => vName_any l W hs)
  generalize nameL l = b at H1 H2
  go_enter Tryz.func3, Tryz.ntmps3
  go_wp2_with fail
  refine (H1.out w).mono ?_
  rintro e w1 ⟨rfl, hb1⟩
  go_wp2_with fail
  refine (H2.out w1).mono ?_
  rintro e w2 ⟨rfl, hb2⟩
  have hbb : (b == b) = true := beq_self_eq_true b
  go_wp2_with fail
  refine (qlive_any w2 ((hE.below hb1).below hb2)).mono ?_
  rintro e w3 ⟨rfl, hb3⟩
  go_wp2
  go_ret
  exact ⟨rfl, below_two (below_two hb1 hb2) hb3⟩
end Go.Proofs.YtejccafolfeabaaGreatDoor

