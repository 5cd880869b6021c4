/-
  Several texts in one, in their build order: WitP, Post, Qt, Qd.
-/
import Derived.Test.YtejccafolfeabaaGreatDoorCards
import Derived.Test.YtejccafolfeabaaGreatDoorTie
import Derived.PinnedBridge
import Derived.Lib.LaidIn
import Derived.Lib.LaidU8
import Derived.Lib.LaidTab
import Derived.Lib.LaidCaseMet
import Derived.Shelf.Vars
import Derived.Deep.DeepHandedRow
import Derived.Deep.DeepWitnessRowRef
import Derived.ProofKit
import Derived.Carry
import Derived.ChangeSame
import Derived.OpenShut
import Derived.Deep.SlicePairs
import Derived.SizedLaws
import Derived.ChangeSlices
import Derived.Test.YtejccafolfeabaaGreatDoorZ1
import Derived.Test.YtejccafolfeabaaGreatDoorZ2
import Derived.Test.YtejccafolfeabaaGreatDoorZ3
import Derived.Test.YtejccafolfeabaaGreatDoorZ4
/-
  WHAT THE LISTED VARIABLES GIVE (the tables of utf8); a world that bears them all, for the witness.
-/
namespace Go.Proofs.YtejccafolfeabaaGreatDoor
open Go.ChangeShapes Go.WideShapes Go.ChangeAt Go.RowKit Go.Lib Go.Shelf

theorem ownK : ownKnob Tryz.prog.godebug = none := by kernel_rfl
set_option maxRecDepth 100000 in
theorem accept_eq : (Rows.laid_unicode_utf8_acceptRanges : DataW Unit) = acceptData := by kernel_rfl
theorem tabs_of_laid {W : World} (hL : laidMetH Tryz.prog Rows.propsNamesRow.laid W) : Tabs W := by
  have h1 := laidMet.reads hL (.tail _ (.tail _ (.tail _ (.tail _ (.tail _ (.tail _ (.tail _ (.head _))))))))
  have h2 := laidMet.reads hL (.tail _ (.tail _ (.tail _ (.head _))))
  rw [show (Rows.laid_unicode_utf8_first : DataW Unit) = firstData from Pinned.utf8First_eq] at h1
  rw [accept_eq] at h2
  exact utf8Tabs_of_reads (ρ := Tryz.lays260_ren) { Tryz.lays260 with } ⟨by kernel_rfl, by kernel_rfl, by kernel_rfl, by kernel_rfl, by kernel_rfl, by kernel_rfl, by kernel_rfl⟩ h1 h2

def deB64 : List Int := [0, 1, 56, 2, 57, 49, 28, 3, 61, 58, 42, 50, 38, 29, 17, 4, 62, 47, 59, 36, 45, 43, 51, 22, 53, 39, 33, 30, 24, 18, 12, 5, 63, 55, 48, 27, 60, 41, 37, 16, 46, 35, 44, 21, 52, 32, 23, 11, 54, 26, 40, 15, 34, 20, 31, 10, 25, 14, 19, 9, 13, 8, 7, 6]
theorem tabB_of_laid {W : World} (hL : laidMetH Tryz.prog Rows.propsNamesRow.laid W) : TabB W := by
  have h := laidMet.reads hL (.tail _ (.head _))
  rw [show (Rows.laid_math_bits_deBruijn64tab : DataW Unit) = tabData .u8 deB64 by kernel_rfl] at h
  obtain ⟨g, t, cs, fuel, p, hg, hty, hvar, hd⟩ := h
  obtain rfl := Option.some.inj ((show Tryz.prog.globalNamed "math/bits.deBruijn64tab" = some 6 by kernel_rfl).symm.trans hg)
  obtain rfl := Option.some.inj ((show (Tryz.prog.globals[(6 : Nat)]?).map (·.type) = some 252 by kernel_rfl).symm.trans hty)
  have hcs := cells_of_tab Tryz.underlying252 Tryz.underlying5 (by kernel_rfl) (by kernel_rfl) hd
  have := World.var?_cell hg hvar 15
  unfold TabB
  rw [this, ← Array.getElem?_toList, hcs]; rfl

theorem env_of_laid {W : World} (hL : laidMetH Tryz.prog Rows.propsNamesRow.laid W) (hS : W.ShapedOpen Tryz.prog) : Env W :=
  ⟨tabs_of_laid hL, cell_of_shapedOpen_int hS (g := 0) (t := 3) (zero := #[.int .i64 0]) (of_decide_eq_true (by kernel_rfl)) (by kernel_rfl) rfl (by kernel_rfl) (by kernel_rfl) Tryz.underlying3, tabB_of_laid hL⟩

/-- THE WITNESS's WORLD: the settled one with three blocks more (the two errors' structs; the rows of the table of cases); the variables hold what their initialisers lay. -/
noncomputable def laidWorld (os : Os) : World :=
  let N := (World.settled Tryz.prog os).heap.size
  let w0 := World.holding Tryz.prog os ⟨#[.cells #[.string ⟨#[118, 97, 108, 117, 101, 32, 111, 117, 116, 32, 111, 102, 32, 114, 97, 110, 103, 101]⟩] 259, .cells #[.string ⟨#[105, 110, 118, 97, 108, 105, 100, 32, 115, 121, 110, 116, 97, 120]⟩] 259, .cells Lib.caseCells5 250], #[], []⟩
  let put (h : Array Obj) (g : Nat) (cs : Array Value) : Array Obj := h.modify g fun
    | .cells _ t frozen => .cells cs t frozen
    | o => o
  let h1 := put w0.heap 1 (firstTab.map fun z => Value.int .u8 z).toArray
  let h2 := put h1 2 ((List.range 16).flatMap fun i => [Value.int .u8 (accLo i), Value.int .u8 (accHi i)]).toArray
  let h3 := put h2 7 #[.iface 257 (.pointer (some ⟨N + 1, 0, none⟩))]
  let h4 := put h3 8 #[.iface 257 (.pointer (some ⟨N, 0, none⟩))]
  let h5 := put h4 4 ((List.range 20).map fun i => Value.int .u64 (10 ^ i : Nat)).toArray
  let h6 := put h5 5 ([0, 1, 28, 2, 29, 14, 24, 3, 30, 22, 20, 15, 25, 17, 4, 8, 31, 27, 13, 23, 21, 19, 16, 7, 26, 12, 18, 6, 11, 5, 10, 9].map fun (z : Int) => Value.int .u8 z).toArray
  let h7 := put h6 6 ([0, 1, 56, 2, 57, 49, 28, 3, 61, 58, 42, 50, 38, 29, 17, 4, 62, 47, 59, 36, 45, 43, 51, 22, 53, 39, 33, 30, 24, 18, 12, 5, 63, 55, 48, 27, 60, 41, 37, 16, 46, 35, 44, 21, 52, 32, 23, 11, 54, 26, 40, 15, 34, 20, 31, 10, 25, 14, 19, 9, 13, 8, 7, 6].map fun (z : Int) => Value.int .u8 z).toArray
  let h8 := put h7 3 #[.slice (some ⟨N + 2, 0, none⟩) Lib.caseA.size Lib.caseA.size]
  { w0 with heap := h8 }
/-- A world in which the variable holds a slice of the table's cells reads as the table: the table's own row of 'laid'. -/
theorem caseIn {P : Program} {ρ : Go.Shelf.Ren} (L : Go.Proofs.Lays.n274 P ρ) (t206 : P.underlying (ρ.t 206) = some (.array 3 (ρ.t 21))) (X : CaseExtra P ρ) {w : World} (R : Nat) (t : TypeId) (hgR : ρ.g 13 ≠ R)
    (hvar : w.heap[ρ.g 13]? = some (.cells #[.slice (some ⟨R, 0, none⟩) caseA.size caseA.size] (ρ.t 162) (0, 0)))
    (hblk : w.heap[R]? = some (.cells caseCells5 t (0, 0))) : LaidIn P w [("unicode.CaseRanges", caseData)] [ρ.g 13, R] := by
  have hT := caseTab_of_block hblk
  have hread := case_slice_reads L t206 X hT caseA_wf (by rw [caseA_size]; unfold maxLen; omega) 0
  rw [case_rows_data] at hread
  have hv : w.var? P "unicode.CaseRanges" = some #[.slice (some ⟨R, 0, none⟩) caseA.size caseA.size] := by simp [World.var?, X.n13, hvar]
  refine LaidIn.one _ X.n13 X.y13 hv hread ?_ (fun b off hp => ?_) (fun x hx => ?_)
  · refine List.nodup_append.2 ⟨row_nodup _ _, row_nodup _ _, ?_⟩
    intro a ha b hb e
    obtain ⟨i, _, rfl⟩ := MemPlace.mem_row.1 ha
    obtain ⟨j, _, rfl⟩ := MemPlace.mem_row.1 hb
    simp at e
    exact hgR e.1
  · rcases List.mem_append.1 hp with hp | hp
    · obtain ⟨i, hi, e⟩ := MemPlace.mem_row.1 hp
      cases e
      refine ⟨⟨_, _, hvar⟩, fun u v hc => ?_⟩
      obtain rfl : i = 0 := by simp at hi; omega
      rw [Lib.cell_of_heap hvar] at hc
      simp at hc
    · obtain ⟨i, hi, e⟩ := MemPlace.mem_row.1 hp
      cases e
      refine ⟨⟨_, _, hblk⟩, fun u v hc => ?_⟩
      obtain ⟨c0, c1, c2, c3, c4⟩ := hT (i / 5) (by omega)
      have hi5 : 0 + i = 0 + i / 5 * 5 + i % 5 := by omega
      simp only at hc
      rw [hi5] at hc
      have hm : i % 5 < 5 := Nat.mod_lt _ (by omega)
      match hk : i % 5, hm with
      | 0, _ => rw [hk, Nat.add_zero, c0] at hc; cases hc
      | 1, _ => rw [hk, c1] at hc; cases hc
      | 2, _ => rw [hk, c2] at hc; cases hc
      | 3, _ => rw [hk, c3] at hc; cases hc
      | 4, _ => rw [hk, c4] at hc; cases hc
  · rcases List.mem_append.1 hx with hx | hx
    · obtain ⟨i, _, rfl⟩ := MemPlace.mem_row.1 hx; simp [MemPlace.block]
    · obtain ⟨i, _, rfl⟩ := MemPlace.mem_row.1 hx; simp [MemPlace.block]
/-- The numbers of the table's types here, and its variable's. -/
def renC : Go.Shelf.Ren := ⟨Tryz.lays274_ren.f, Tryz.lays274_ren.t, fun _ => 3⟩
set_option maxRecDepth 1000000 in
theorem laid_in (os : Os) (args : Array Value) : LaidIn Tryz.prog ((laidWorld os).forCall (fun _ _ => 0) ⟨#[], args, []⟩).memory Rows.propsNamesRow.laid ([2, 7, 8, 4, 5, 6, (World.settled Tryz.prog default).heap.size, (World.settled Tryz.prog default).heap.size + 1] ++ ([3, (World.settled Tryz.prog default).heap.size + 2] ++ [1])) := by
  have h1 : LaidIn Tryz.prog ((laidWorld os).forCall (fun _ _ => 0) ⟨#[], args, []⟩).memory (Rows.propsNamesRow.laid.take 6) [2, 7, 8, 4, 5, 6, (World.settled Tryz.prog default).heap.size, (World.settled Tryz.prog default).heap.size + 1] :=
    LaidIn.of_run _ 8 (by kernel_rfl) (by kernel_rfl) (by kernel_rfl) (by kernel_rfl)
  have h2 : LaidIn Tryz.prog ((laidWorld os).forCall (fun _ _ => 0) ⟨#[], args, []⟩).memory [("unicode.CaseRanges", Rows.laid_unicode_CaseRanges)] [3, (World.settled Tryz.prog default).heap.size + 2] := by
    rw [show (Rows.laid_unicode_CaseRanges : DataW Unit) = caseData from Pinned.caseRanges_eq]
    exact caseIn (ρ := renC) { Tryz.lays274 with } (by kernel_rfl) ⟨by kernel_rfl, by kernel_rfl, by kernel_rfl, by kernel_rfl, by kernel_rfl, by kernel_rfl⟩ ((World.settled Tryz.prog default).heap.size + 2) 250 (of_decide_eq_true (by kernel_rfl)) (by kernel_rfl) (by kernel_rfl)
  have h3 : LaidIn Tryz.prog ((laidWorld os).forCall (fun _ _ => 0) ⟨#[], args, []⟩).memory [("unicode/utf8.first", Rows.laid_unicode_utf8_first)] [1] :=
    LaidIn.of_run _ 8 (by kernel_rfl) (by kernel_rfl) (by kernel_rfl) (by kernel_rfl)
  exact LaidIn.append h1 (LaidIn.append h2 h3 (by kernel_rfl)) (by kernel_rfl)
end Go.Proofs.YtejccafolfeabaaGreatDoor

/-
  THE LAST STEP OF A LAW's ROW: it answers true, and nothing that lay has turned; an argument that is a list of ranges, opened. No walk.
-/
namespace Go.Proofs.YtejccafolfeabaaGreatDoor
open Go.ChangeShapes Go.WideShapes Go.ChangeAt Go.RowKit

section
variable {H : Type} {enc : TypeId × Value → H} {P : Program}
theorem trodAll_stays {W W' : World} {sp' : Nat → Bool} (hl : laidOutB P = true) : ∀ {ts : List TypeId} {vs : List Value} {ds : List (DataW H)} {ps : List MemPlace}, (∀ t ∈ ts, P.readableRec t = true ∧ t < P.types.size) →
    DataW.TrodAll enc P W 0 (fun _ => true) true ts vs ds ps → (∀ p ∈ ps, W.sameAt W' p) → (∀ p ∈ ps, sp' p.block = true) → DataW.TrodAll enc P W' 0 sp' true ts vs ds ps
  | [], vs, ds, ps, _, h, _, _ => by
    obtain ⟨rfl, rfl, rfl⟩ := trodAll_nil h
    exact trodAll_mk0
  | t :: ts, vs, ds, ps, ht, h, h1, h2 => by
    obtain ⟨v, vs', d, ds', p, q, rfl, rfl, rfl, h0, hr⟩ := trodAll_cons h
    exact trodAll_cons_mk (WideElems.Trod_stays hl (ht t (by simp)).1 (ht t (by simp)).2 h0 (fun x hx => h1 x (by simp [hx])) (fun x hx => h2 x (by simp [hx])))
      (trodAll_stays hl (fun u hu => ht u (by simp [hu])) hr (fun x hx => h1 x (by simp [hx])) (fun x hx => h2 x (by simp [hx])))
/-- A law that answers true and turns nothing that lay. -/
theorem post_law {f : Func} {s : ChangeSpec} {apart fresh handsOn again : Bool} {W W' : World} {args : Array Value} {ds gs : List (DataW H)} {before : List MemPlace} {tb : TypeId}
    (hl : laidOutB P = true) (hps : (f.params.toList.all fun t => P.readableRec t && decide (t < P.types.size)) = true) (hres : f.resultTypes = #[tb]) (htb : P.underlying tb = some .bool) (hv : s.vars = [])
    (hfn : ∀ (gs' : List (DataW H)), gs' = [] → s.fn H (ds ++ gs') = { results := [.lit (.bool true)], args := ds })
    (hW : DataW.Whole enc P f.params.toList s.vars apart W args.toList ds gs before) (hb : Below W.heap.size W W') :
    s.post enc P f apart fresh handsOn again W args (.bool true) W' := by
  have hlt : ∀ p ∈ before, p.block < W.heap.size := fun p hp => hW.lt p hp
  have hW' := hW
  obtain ⟨p, q, hA, hV, rfl, hfz, hnd⟩ := hW'
  have hA' : DataW.TrodAll enc P W 0 (fun _ => true) true f.params.toList args.toList ds p := hA
  rw [hv] at hV
  obtain ⟨rfl, rfl⟩ := trodVars_none hV
  have hpr : ∀ t ∈ f.params.toList, P.readableRec t = true ∧ t < P.types.size := fun t ht => by
    have := List.all_eq_true.1 hps t ht
    simpa using this
  have hres' : ∀ (b : Nat) (sp : Nat → Bool) (hd : Bool), DataW.TrodAll enc P W' b sp hd f.resultTypes.toList ((Value.bool true).resultList f.resultTypes.size) (s.fn H (ds ++ [])).results [] := fun b sp hd => by
    rw [hres, hfn [] rfl]
    exact trodAll_cons_mk (shut_bool htb _) trodAll_mk0
  have hargs : ∀ sp : Nat → Bool, (∀ x ∈ p ++ [], sp x.block = true) → DataW.TrodAll enc P W' 0 sp true f.params.toList args.toList (s.fn H (ds ++ [])).args p := fun sp hsp => by
    rw [hfn [] rfl]
    exact trodAll_stays hl hpr hA' (fun x hx => hb.same (hlt x (by simp [hx]))) (fun x hx => hsp x (by simp [hx]))
  have hvars : ∀ sp : Nat → Bool, DataW.TrodVars enc P W' sp s.vars (s.fn H (ds ++ [])).vars [] := fun sp => by
    rw [hv, hfn [] rfl]
    exact rfl
  have hold : ∀ x ∈ p ++ [], (fun b => decide (b < W.heap.size)) x.block = true := fun x hx => by simpa using hlt x hx
  refine ⟨ds, [], p ++ [], [], p, [], hW, hres' _ _ _, hargs _ hold, hvars _, World.keptBut_mono (fun x hx => ⟨hx, ?_⟩) (hb.frame (· ∈ p ++ [])), fun _ => ?_⟩
  · simpa using hx
  · refine ⟨?_, _, _, ([] ++ p) ++ [], ⟨[] ++ p, [], trodAll_append (hargs _ (fun _ _ => rfl)) (hres' _ _ _), hvars _, rfl, ?_, ?_⟩, ?_⟩
    · exact ok_one hres rfl (okWide_bool_mk htb _)
    · intro b off hp
      have hin : MemPlace.cell b off ∈ p ++ [] := by simpa using hp
      rw [hb.frozen (hlt _ hin)]
      exact hfz b off hin
    · intro ha
      simpa using hnd ha
    · intro x hx _
      simpa using hx
end

theorem cellsR : Tryz.prog.cellsOf 80 = 2 := by kernel_rfl
theorem cellsI32 : Tryz.prog.cellsOf 21 = 1 := by kernel_rfl
set_option maxRecDepth 100000 in
/-- An argument that is a list of ranges. -/
theorem open_ranges {H : Type} {enc : TypeId × Value → H} {W : World} {r : Reach} {b0 : Nat} {v : Value} {d : DataW H} {p : List MemPlace} (hv : Value.okWide Tryz.prog W r b0 37 v) (hd : DataW.Trod enc Tryz.prog W 0 (fun _ => true) true 37 v d p) :
    ∃ (A : Option Addr) (n c : Nat) (l : List (Int × Int)), v = .slice A n c ∧ Rd W 2 A (l.map encR) ∧ l.length = n ∧ n ≤ maxLen ∧ (n = 0 ∨ ∃ el sp, d = .slice el sp ∧ el.length = n) ∧ ∀ x ∈ l, (-2147483648 ≤ x.1 ∧ x.1 ≤ 2147483647) ∧ (-2147483648 ≤ x.2 ∧ x.2 ≤ 2147483647) := by
  obtain ⟨A, n, c, rfl⟩ := okWide_slice Tryz.underlying37 hv
  obtain ⟨fuel, hf⟩ := hd
  rcases Go.Deep.open_slice_pairs Tryz.underlying37 Tryz.underlying80 cellsR rfl rfl cellsI32 cellsI32 hf with ⟨hc, _⟩ | ⟨a, len, cap, m, k, V0, V1, D0, D1, P0, P1, hc, _, hl, hm, hmm, hxd, hx⟩
  · simp [Value.cells] at hc
    obtain ⟨rfl, rfl, rfl⟩ := hc
    exact ⟨none, 0, 0, [], rfl, Rd.nil_ _ _ _, rfl, by unfold maxLen; omega, Or.inl rfl, by simp⟩
  · simp [Value.cells] at hc
    obtain ⟨rfl, rfl, rfl⟩ := hc
    have hmn : m = c := by simpa using hmm
    have key : ∀ i, i < n → ∃ lo hi : Int, W.cell? (a.add (i * 2)) = some (.int .i32 lo) ∧ W.cell? (a.add (i * 2 + 1)) = some (.int .i32 hi) ∧ (-2147483648 ≤ lo ∧ lo ≤ 2147483647) ∧ (-2147483648 ≤ hi ∧ hi ≤ 2147483647) := by
      intro i hi
      obtain ⟨h0, h1, h2, h3⟩ := hx i (by omega)
      obtain ⟨lo, e0, _, w0⟩ := DataW.trod_int Tryz.underlying21 h2
      obtain ⟨hi', e1, _, w1⟩ := DataW.trod_int Tryz.underlying21 h3
      simp at e0 e1
      rw [e0] at h0; rw [e1] at h1
      exact ⟨lo, hi', h0, h1, bounds_i32 w0, bounds_i32 w1⟩
    obtain ⟨f, hf2⟩ : ∃ f : Nat → Int × Int, ∀ i, i < n → W.cell? (a.add (i * 2)) = some (.int .i32 (f i).1) ∧ W.cell? (a.add (i * 2 + 1)) = some (.int .i32 (f i).2) ∧ (-2147483648 ≤ (f i).1 ∧ (f i).1 ≤ 2147483647) ∧ (-2147483648 ≤ (f i).2 ∧ (f i).2 ≤ 2147483647) :=
      ⟨fun i => if h : i < n then (Classical.choose (key i h), Classical.choose (Classical.choose_spec (key i h))) else (0, 0), fun i hi => by
        simp only [dif_pos hi]
        exact Classical.choose_spec (Classical.choose_spec (key i hi))⟩
    clear key hx
    refine ⟨some a, n, c, (List.range n).map f, rfl, ?_, by simp, by omega, Or.inr ⟨_, _, congrArg Prod.fst hxd, by simp⟩, ?_⟩
    · intro hne
      have hn0 : 0 < n := by
        rcases Nat.eq_zero_or_pos n with h | h
        · subst h; simp at hne
        · exact h
      obtain ⟨b, off, spot⟩ := a
      have hsp : spot = none := by
        have h0 := (hf2 0 hn0).1
        simpa [Addr.add] using World.cell?_spot h0
      subst hsp
      have ea : ∀ q, (⟨b, off, none⟩ : Addr).add q = ⟨b, off + q, none⟩ := fun q => by
        unfold Addr.add; split
        · rename_i hq; subst hq; rfl
        · rfl
      refine ⟨b, off, rfl, fun i j x u hi hj => ?_⟩
      have hin : i < n := by
        have := (List.getElem?_eq_some_iff.1 hi).1
        simpa using this
      have hxe : encR (f i) = x := by
        simp [hin] at hi; exact hi
      subst hxe
      obtain ⟨h0, h1, _⟩ := hf2 i hin
      rw [ea] at h0 h1
      match j, hj with
      | 0, hj => simp [encR] at hj; subst hj; simpa using h0
      | 1, hj => simp [encR] at hj; subst hj; simpa [Nat.add_assoc] using h1
    · intro x hx'
      obtain ⟨i, hi, rfl⟩ := List.mem_map.1 hx'
      have := hf2 i (List.mem_range.1 hi)
      exact ⟨this.2.2.1, this.2.2.2⟩
/-- A list of ranges that the reach holds is no longer than 2^44. -/
theorem sized_ranges {H : Type} {ts : List TypeId} {ds : List (DataW H)} (h : (DataW.weightsEach Tryz.prog ts ds).all (· ≤ reachBytes) = true) {j : Nat} {d : DataW H} {n : Nat} (ht : ts[j]? = some 37) (hd : ds[j]? = some d)
    (hn : n = 0 ∨ ∃ el sp, d = .slice el sp ∧ el.length = n) : n ≤ 17592186044416 := by
  rcases hn with rfl | ⟨el, sp, rfl, rfl⟩
  · omega
  · have h1 := sized_slice h ht hd Tryz.underlying37
    rw [show Tryz.prog.bytesOf 80 = 8 by kernel_rfl] at h1
    have h2 := reachBytes_lt
    simp only [Nat.reducePow] at h2
    omega
set_option maxRecDepth 100000 in
/-- An argument that is a list of runes. -/
theorem open_runes {H : Type} {enc : TypeId × Value → H} {W : World} {r : Reach} {b0 : Nat} {v : Value} {d : DataW H} {p : List MemPlace} (hv : Value.okWide Tryz.prog W r b0 24 v) (hd : DataW.Trod enc Tryz.prog W 0 (fun _ => true) true 24 v d p) :
    ∃ (A : Option Addr) (n c : Nat) (q : List Int), v = .slice A n c ∧ Rd W 1 A (q.map fun r => [.int .i32 r]) ∧ q.length = n ∧ n ≤ maxLen := by
  obtain ⟨A, n, c, rfl⟩ := okWide_slice Tryz.underlying24 hv
  obtain ⟨fuel, hf⟩ := hd
  rcases Go.ChangeShapes.open_ints Tryz.underlying24 Tryz.underlying21 cellsI32 hf with ⟨hc, _⟩ | ⟨a, len, cap, zs, hc, _, hl, hm, hzl, _, hx, _⟩
  · simp [Value.cells] at hc
    obtain ⟨rfl, rfl, rfl⟩ := hc
    exact ⟨none, 0, 0, [], rfl, Rd.nil_ _ _ _, rfl, by unfold maxLen; omega⟩
  · simp [Value.cells] at hc
    obtain ⟨rfl, rfl, rfl⟩ := hc
    have hzc : zs.length = c := by simpa using hzl
    refine ⟨some a, n, c, zs.take n, rfl, ?_, by simp; omega, by omega⟩
    intro hne
    have hn0 : 0 < n := by
      rcases Nat.eq_zero_or_pos n with h | h
      · subst h; simp at hne
      · exact h
    obtain ⟨b, off, spot⟩ := a
    have hsp : spot = none := by
      have h0 := hx 0 (by omega)
      simpa [Addr.add] using World.cell?_spot h0
    subst hsp
    have ea : ∀ q, (⟨b, off, none⟩ : Addr).add q = ⟨b, off + q, none⟩ := fun q => by
      unfold Addr.add; split
      · rename_i hq; subst hq; rfl
      · rfl
    refine ⟨b, off, rfl, fun i j x u hi hj => ?_⟩
    have hin : i < n := by
      have := (List.getElem?_eq_some_iff.1 hi).1
      simp at this; omega
    have hxe : [Value.int .i32 (zs.getD i 0)] = x := by
      rw [List.getElem?_map, List.getElem?_take_of_lt hin] at hi
      rw [List.getD_eq_getElem?_getD]
      rcases hz : zs[i]? with _ | z
      · rw [hz] at hi; simp at hi
      · rw [hz] at hi; simpa using hi
    subst hxe
    have h0 := hx i (by omega)
    rw [ea] at h0
    match j, hj with
    | 0, hj => simp at hj; subst hj; simpa using h0
end Go.Proofs.YtejccafolfeabaaGreatDoor

/-
  kerflaw04: texts, ints, ranged, walked (two lists that are the same).
-/
namespace Go.Proofs.YtejccafolfeabaaGreatDoor
open Go.RowKit Go.Maps

theorem Rd.atS {w : World} {A : Option Addr} {l : List (List UInt8)} {k : Nat} {x : List UInt8} (h : Rd w 1 A (l.map encNm)) (hk : l[k]? = some x) : ∃ b off, A = some ⟨b, off, none⟩ ∧ w.cell? ⟨b, off + k, none⟩ = some (.string (bytesOf x)) := by
  obtain ⟨b, off, rfl, hc⟩ := h (by intro e; cases l with | nil => simp at hk | cons _ _ => simp at e)
  have h0 := hc k 0 (encNm x) (.string (bytesOf x)) (by simp [hk]) rfl
  exact ⟨b, off, rfl, by simpa using h0⟩
set_option maxRecDepth 100000 in
set_option maxHeartbeats 1000000 in
theorem qtexts_any (A B : Option Addr) (n c e : Nat) (l : List (List UInt8)) (w : World) (hA : Rd w 1 A (l.map encNm)) (hB : Rd w 1 B (l.map encNm)) (hl : l.length = n) (hn : n ≤ 4000000) :
    Calls Tryz.prog 24 #[.slice A n c, .slice B n e] w fun e w' => e = .returned (.bool true) ∧ ∃ k, w' = w.drewN k := by
  have Hl := Lib.hid hl
  clear hl
  go_enter Tryz.func24, Tryz.ntmps24
  go_wp2
  go_loopw [5] (fun v wr => ∃ i k : Nat, v = .int .i64 i ∧ i ≤ n ∧ wr = w.drewN k) (fun v _ => n - (intOf v).toNat)
  case atStart => exact ⟨0, 0, rfl, by omega, rfl⟩
  case round =>
    obtain ⟨i, k, rfl, hi, rfl⟩ := hrel
    by_cases hlt : i < n
    · obtain ⟨x, Hx⟩ : ∃ x, Hid (l[i]? = some x) := ⟨_, Lib.hid (List.getElem?_eq_getElem (show i < l.length by have := Hl.out; omega))⟩
      obtain ⟨b, off, rfl, h1⟩ := hA.atS Hx.out
      obtain ⟨b', off', rfl, h2⟩ := hB.atS Hx.out
      go_wp2_with fail
      go_quiet (fail)
      go_wp2
      go_roundw
      case rel => exact ⟨i + 1, _, by go_num, by omega, by first | rfl | exact World.drewN_drewN⟩
      case measure => simp [intOf]; omega
    · go_wp2
      go_ret
      exact ⟨rfl, k, rfl⟩

theorem newP_code {t : List UInt8} {x : Int × Nat} (h : newP t = .error x) : 1 ≤ x.1 := by
  unfold newP at h
  split at h
  · injection h with h; subst h; decide
  · have key : ∀ (L : List (List UInt8)) (d : DbP) (i : Nat), linesGo d L i = .error x → 1 ≤ x.1 := by
      intro L
      induction L with
      | nil => intro d i h; cases h
      | cons a r ih =>
        intro d i h
        unfold linesGo at h
        split at h
        · rename_i e he
          injection h with h; subst h
          simp only
          unfold stepL at he
          split at he
          · cases he
          · injection he with he; omega
          · have := addL_err he; omega
        · exact ih _ _ h
    exact key _ _ _ h
end Go.Proofs.YtejccafolfeabaaGreatDoor

/-
  kerflaw04.PropsBack, walked.
-/
namespace Go.Proofs.YtejccafolfeabaaGreatDoor
open Go.RowKit Go.Maps

theorem setI_at {d : DbP} {i : Nat} {s : List (Int × Int)} (h : d.full[i]? = some s) : d.setI (i : Int) = s := by
  unfold DbP.setI
  rw [if_pos (by omega), List.getD_eq_getElem?_getD, show ((i : Int).toNat) = i by omega, h]; rfl
set_option maxRecDepth 100000 in
set_option maxHeartbeats 4000000 in
theorem qPropsBack_any (s : ByteArray) (w : World) (hE : Env w) (hs : s.size ≤ maxLen) : Calls Tryz.prog 6 #[.string s] w fun e w' => e = .returned (.bool true) ∧ Below w.heap.size w w' := by
  obtain ⟨t, rfl⟩ : ∃ t, s = bytesOf t := ⟨_, (bytesOf_data s).symm⟩
  rw [bytesOf_size] at hs
  have hsz : (bytesOf t).size = t.length := bytesOf_size t
  by_cases hbig : 12000 < t.length
  · go_enter Tryz.func6, Tryz.ntmps6
    go_wp2_with fail
    refine (qlive_any w hE).mono ?_
    rintro e w1 ⟨rfl, hb1⟩
    go_wp2
    go_ret
    exact ⟨rfl, hb1⟩
  · have HN := Lib.hid (wNew_any t w hE hs)
    cases hr : newP t with
    | error x =>
      rw [hr] at HN
      have hx := newP_code hr
      have hne : ((x.1 : Int) != 0) = true := by rw [bne_iff_ne]; omega
      clear hr
      go_enter Tryz.func6, Tryz.ntmps6
      go_wp2_with fail
      refine HN.out.mono ?_
      rintro e w1 ⟨he, hb1⟩
      have he : e = .returned (.tuple #[.pointer none, .int .i64 x.1, .int .i64 (x.2 : Int)]) := he
      subst he
      go_wp2_with (go_at_call 15; refine (qnum_any _ _).mono ?_; rintro e w' ⟨rfl, rfl⟩)
      refine (qlive_any w1 (hE.below hb1)).mono ?_
      rintro e w2 ⟨rfl, hb2⟩
      go_wp2
      go_ret
      exact ⟨rfl, below_two hb1 hb2⟩
    | ok d =>
      rw [hr] at HN
      obtain ⟨hok, hap⟩ := newP_ok hr
      have HO := Lib.hid (And.intro hok (And.intro hap (newP_named hr)))
      have HB := Lib.hid (newP_back hr (by omega))
      have hdl := newP_text hr (by omega)
      have HN2 := Lib.hid (fun W (h : Env W) => wNew_any d.text W h (by unfold maxLen; omega))
      rw [HB.out] at HN2
      obtain ⟨nn, Hnn⟩ : ∃ nn, Hid (d.names.length = nn) := ⟨_, rfl⟩
      have hn64 : nn ≤ 64 := by rw [← Hnn.out]; exact hok.few
      have HFl : Hid (d.full.length = nn) := Lib.hid (by rw [← Hnn.out]; exact full_len hok)
      clear hr hok hap hdl
      go_enter Tryz.func6, Tryz.ntmps6
      go_wp2_with fail
      refine HN.out.mono ?_
      rintro e w1 ⟨⟨p, rfl, hd⟩, hb⟩
      have hE1 := hE.below hb
      go_wp2_with (go_at_call 15; refine (qnum_any _ _).mono ?_; rintro e w' ⟨rfl, rfl⟩)
      refine (wText_any p d w1 hd HO.out.1 HO.out.2.1 HO.out.2.2 hE1.tabB).mono ?_
      rintro e w2 ⟨rfl, hb2⟩
      replace hb := below_two hb hb2
      replace hd := hd.below hb2
      replace hE1 := hE1.below hb2
      clear hb2
      go_wp2_with fail
      refine (HN2.out w2 hE1).mono ?_
      rintro e w3 ⟨⟨p2, rfl, hd2⟩, hb2⟩
      replace hb := below_two hb hb2
      replace hd := hd.below hb2
      replace hE1 := hE1.below hb2
      clear hb2
      go_wp2_with (go_at_call 15; refine (qnum_any _ _).mono ?_; rintro e w' ⟨rfl, rfl⟩)
      refine (wNames_any p2 d w3 hd2 HO.out.1).mono ?_
      rintro e w4 ⟨A4, n4, c4, rfl, ho4, hb2⟩
      obtain rfl : nn = n4 := by have := ho4.len; rw [List.length_map, Hnn.out] at this; exact this
      replace hb := below_two hb hb2
      replace hd := hd.below hb2
      replace hd2 := hd2.below hb2
      replace hE1 := hE1.below hb2
      clear hb2
      go_wp2_with fail
      refine (wNames_any p d w4 hd HO.out.1).mono ?_
      rintro e w5 ⟨A5, n5, c5, rfl, ho5, hb2⟩
      obtain rfl : nn = n5 := by have := ho5.len; rw [List.length_map, Hnn.out] at this; exact this
      replace hb := below_two hb hb2
      replace hd := hd.below hb2
      replace hd2 := hd2.below hb2
      replace hE1 := hE1.below hb2
      have hA4 := (ho4.below hb2).rd (by omega)
      have hA5 := ho5.rd (by omega)
      clear hb2
      go_wp2_with fail
      refine (qtexts_any A4 A5 nn c4 c5 d.names w5 hA4 hA5 Hnn.out (by omega)).mono ?_
      rintro e w6 ⟨rfl, k6, rfl⟩
      have hb2 : Below w5.heap.size w5 (w5.drewN k6) := below_refl_drewN w5 k6
      replace hb := below_two hb hb2
      replace hd := hd.below hb2
      replace hd2 := hd2.below hb2
      replace hE1 := hE1.below hb2
      clear hb2 hA4 hA5 ho4 ho5
      generalize w5.drewN k6 = w6 at hb hd hd2 hE1 ⊢
      go_wp2_with fail
      refine (wText_any p2 d w6 hd2 HO.out.1 HO.out.2.1 HO.out.2.2 hE1.tabB).mono ?_
      rintro e w7 ⟨rfl, hb2⟩
      replace hb := below_two hb hb2
      replace hd := hd.below hb2
      replace hd2 := hd2.below hb2
      replace hE1 := hE1.below hb2
      clear hb2
      go_wp2_with fail
      refine (wText_any p d w7 hd HO.out.1 HO.out.2.1 HO.out.2.2 hE1.tabB).mono ?_
      rintro e w8 ⟨rfl, hb2⟩
      replace hb := below_two hb hb2
      replace hd := hd.below hb2
      replace hd2 := hd2.below hb2
      replace hE1 := hE1.below hb2
      clear hb2
      go_wp2_with fail
      go_loopw [9] (fun v wr => ∃ i : Nat, v = .int .i64 i ∧ i ≤ nn ∧ Below w8.heap.size w8 wr) (fun v _ => nn - (intOf v).toNat)
      case atStart => exact ⟨0, rfl, by omega, Below.refl _ _⟩
      case round =>
        obtain ⟨i, rfl, hi, hbr⟩ := hrel
        have hdr := hd.below hbr
        have hdr2 := hd2.below hbr
        by_cases hlt : i < nn
        · obtain ⟨s, Hs⟩ : ∃ s, Hid (d.full[i]? = some s) := ⟨_, Lib.hid (List.getElem?_eq_getElem (show i < d.full.length by have := HFl.out; omega))⟩
          have HS := Lib.hid (setI_at Hs.out)
          go_wp2_with fail
          refine (wNames_any p d wr hdr HO.out.1).mono ?_
          rintro e w9 ⟨A9, n9, c9, rfl, ho9, hb9⟩
          obtain rfl : nn = n9 := by have := ho9.len; rw [List.length_map, Hnn.out] at this; exact this
          clear ho9
          go_wp2_with fail
          refine (wSet_any p2 d i w9 (hdr2.below hb9) HO.out.1 HO.out.2.1).mono ?_
          rw [HS.out]
          rintro e wa ⟨Aa, na, ca, rfl, hoa, hba⟩
          go_wp2_with fail
          refine (wSet_any p d i wa ((hdr.below hb9).below hba) HO.out.1 HO.out.2.1).mono ?_
          rw [HS.out]
          rintro e wb ⟨Ab, nb, cb, rfl, hob, hbb⟩
          have hna : s.length = na := by simpa using hoa.len
          have hnb : s.length = nb := by simpa using hob.len
          have hsm := full_small HO.out.1 HO.out.2.1 Hs.out
          go_wp2_with fail
          refine (sSame_any Aa Ab na ca nb cb s s wb ((hoa.below hbb).rd (by omega)) (hob.rd (by omega)) hna hnb (by unfold maxLen; omega) (by unfold maxLen; omega)).mono ?_
          rw [decide_eq_true rfl]
          rintro e wc ⟨rfl, kc, rfl⟩
          go_wp2
          go_roundw
          case rel => exact ⟨i + 1, by go_num, by omega, below_drewN (below_two hbr (below_two hb9 (below_two hba hbb))) kc⟩
          case measure => simp [intOf]; omega
        · go_wp2_with fail
          refine (wNames_any p d wr hdr HO.out.1).mono ?_
          rintro e w9 ⟨A9, n9, c9, rfl, ho9, hb9⟩
          obtain rfl : nn = n9 := by have := ho9.len; rw [List.length_map, Hnn.out] at this; exact this
          clear ho9
          go_wp2_with fail
          refine (qlive_any w9 ((hE1.below hbr).below hb9)).mono ?_
          rintro e wa ⟨rfl, hba⟩
          go_wp2
          go_ret
          exact ⟨rfl, below_two (below_two hb hbr) (below_two hb9 hba)⟩
end Go.Proofs.YtejccafolfeabaaGreatDoor

