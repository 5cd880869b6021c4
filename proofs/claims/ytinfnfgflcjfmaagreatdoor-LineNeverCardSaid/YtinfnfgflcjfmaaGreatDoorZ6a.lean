/-
  Several texts in one, in their build order: Wh, Wi, Wj, Vb, Qt, Vc, Vd, Ve, Vf, Qd, Vi, WitL.
-/
import Derived.Test.YtinfnfgflcjfmaaGreatDoorCards
import Derived.Test.YtinfnfgflcjfmaaGreatDoorTie
import Derived.PinnedBridge
import Derived.Lib.LaidIn
import Derived.Lib.LaidU8
import Derived.Lib.LaidTab
import Derived.Shelf.Vars
import Derived.Deep.DeepHandedRow
import Derived.Deep.DeepWitnessRowRef
import Derived.ProofKit
import Derived.Test.YtinfnfgflcjfmaaGreatDoorZWf
import Derived.Test.YtinfnfgflcjfmaaGreatDoorZWg
import Derived.Test.YtinfnfgflcjfmaaGreatDoorZ1b
import Derived.Test.YtinfnfgflcjfmaaGreatDoorZ3a
import Derived.Test.YtinfnfgflcjfmaaGreatDoorZ2a
import Derived.Test.YtinfnfgflcjfmaaGreatDoorZ1c
import Derived.Test.YtinfnfgflcjfmaaGreatDoorZWa
import Derived.Test.YtinfnfgflcjfmaaGreatDoorZ0a
import Derived.Test.YtinfnfgflcjfmaaGreatDoorZRdr
/-
  props.New, walked.
-/
namespace Go.Proofs.YtinfnfgflcjfmaaGreatDoor
open Go.RowKit Go.Maps

/-- What the library's own variables hold. -/
structure Env (w : World) : Prop where
  tabs : Tabs w
  max : MaxW w
  tabB : TabB w
theorem Env.below {w w' : World} (h : Env w) (hb : Below w.heap.size w w') : Env w' := ⟨h.tabs.below hb, h.max.below hb, cell_keep h.tabB hb⟩

theorem wpList_insert_own {H : Type} {P : Program} (w : World) {ops : Array Oper} {rest : List Oper} {o : Oper} {a : Act} {Q : Exit → Act → World → Prop}
    (hg : o.guard = none) (m x v : Operand) (t : TypeId) (hop : o.op = Op.insert t m x v)
    (k e : TypeId) (K : Keyed P k) (ht : P.underlying t = some (.map k e)) (R : Value → Option (DataW H × List MemPlace)) (b n : Nat) (D : DataW H)
    (hm : a.eval m = .map (some b)) (hown : w.ownsMap P k R b n D) (hn : n < maxLen) (key val : Value) (kl : Lit) (hx : a.eval x = key) (hv : a.eval v = val) (hkey : keyOf P k key = some kl)
    (d : DataW H) (ps : List MemPlace) (hval : R val = some (d, ps))
    (hK : ∀ w', w'.ownsMap P k R b (n + 1) (D.put kl d) → w.grownBy w' (some b) → wpList P ops Q rest (a.put o.dst undef) w') :
    wpList P ops Q (o :: rest) a w := by
  refine wpList_plain hg fun K' hK' => ?_
  obtain ⟨w', hrun, r1, r2⟩ := hown.update K ht hn hkey hval
  unfold Oper.wp
  simp [execOp, hop, hm, hx, hv, hrun, Result.andThen]
  exact hK' _ _ (hK w' r1 r2)

theorem mem_lenL : ∀ {L : List (List UInt8)} {l : List UInt8}, l ∈ L → l.length + 1 ≤ lenL L
  | [], l, h => by simp at h
  | a :: L, l, h => by
    rcases List.mem_cons.1 h with rfl | h
    · simp only [lenL]; omega
    · have := mem_lenL h; simp only [lenL]; omega
theorem line_len {t : List UInt8} {i : Nat} {l : List UInt8} (h : (splitL t)[i]? = some l) : l.length ≤ t.length := by
  have := mem_lenL (List.mem_of_getElem? h); rw [split_len] at this; omega
theorem addL_err {d : DbP} {n s : List UInt8} {k : Int} (h : addL d n s = .error k) : 6 ≤ k := by
  unfold addL at h
  split at h
  · injection h with h; omega
  · split at h
    · rename_i e he
      injection h with h; subst h
      unfold parseE at he
      split at he
      · rename_i y hy
        injection he with he
        have := parse_code hy; omega
      · cases he
    · split at h
      · split at h
        · injection h with h; omega
        · cases h
      · split at h
        · injection h with h; omega
        · split at h
          · injection h with h; omega
          · cases h
theorem addS_err {d : DbP} {u : List UInt8} {k : Int} (h : addS d u = .error k) : 6 ≤ k := by
  unfold addS at h
  split at h
  · injection h with h; omega
  · exact addL_err h
theorem lineU_len (l : List UInt8) : (lineU l).length ≤ l.length := by
  unfold lineU
  refine Nat.le_trans (trimL_len _) ?_
  rw [List.length_take]; omega

/-- What New leaves. -/
def NewEnd (r : Except (Int × Nat) DbP) (e : Ending) (w' : World) : Prop :=
  match r with
  | .error x => e = .returned (.tuple #[.pointer none, .int .i64 x.1, .int .i64 (x.2 : Int)])
  | .ok d => ∃ p, e = .returned (.tuple #[.pointer (some ⟨p, 0, none⟩), .int .i64 0, .int .i64 0]) ∧ DbAt w' p d
theorem NewEnd.err {r : Except (Int × Nat) DbP} {k : Int} {i : Nat} {w' : World} (h : r = .error (k, i)) : NewEnd r (.returned (.tuple #[.pointer none, .int .i64 k, .int .i64 (i : Int)])) w' := by rw [h]; exact rfl
theorem NewEnd.fine {r : Except (Int × Nat) DbP} {d : DbP} {p : Nat} {w' : World} (h : r = .ok d) (hd : DbAt w' p d) : NewEnd r (.returned (.tuple #[.pointer (some ⟨p, 0, none⟩), .int .i64 0, .int .i64 0])) w' := by rw [h]; exact ⟨p, rfl, hd⟩

theorem own_one {w : World} {t : TypeId} {u : Value} {base : Nat} (hb : base ≤ w.heap.size) : Own (w.alloc (.cells #[u] t)) base t 1 (some ⟨w.heap.size, 0, none⟩) 1 1 [[u]] :=
  ⟨rfl, by simp, by simp, .inr ⟨w.heap.size, 1, #[u], rfl, hb, heap_alloc_new _ _, Nat.le_refl _, by unfold maxLen; omega, rfl, by simp⟩⟩

/-- The database that New begins with. -/
theorem dbX_first {w w2 : World} {D : DataW Unit} (hD : D = (DataW.map []).put (.string otherL) (.lit (.int .i64 0)))
    (hown : w2.ownsMap Tryz.prog 9 (plainElem (H := Unit) Tryz.prog 3) (w.heap.size + 1) 1 D) (hg : ((w.alloc (.cells #[.string (bytesOf otherL)] 9)).alloc (.map #[] 0)).grownBy w2 (some (w.heap.size + 1))) :
    DbX ((w2.alloc (.cells #[.slice none 0 0] 111)).alloc (.cells #[.slice (some ⟨w.heap.size, 0, none⟩) 1 1, .map (some (w.heap.size + 1)), .slice (some ⟨w2.heap.size, 0, none⟩) 1 1, .slice none 0 0] 101)) w.heap.size (w2.heap.size + 1) (w2.heap.size + 2)
      (some ⟨w.heap.size, 0, none⟩) 1 1 (w.heap.size + 1) 1 D (some ⟨w2.heap.size, 0, none⟩) 1 1 [(none, 0, 0)] [otherL] [[]] ∧
    Below w.heap.size w ((w2.alloc (.cells #[.slice none 0 0] 111)).alloc (.cells #[.slice (some ⟨w.heap.size, 0, none⟩) 1 1, .map (some (w.heap.size + 1)), .slice (some ⟨w2.heap.size, 0, none⟩) 1 1, .slice none 0 0] 101)) := by
  have hs2 := hg.size
  simp at hs2
  have n1 : Own (w.alloc (.cells #[.string (bytesOf otherL)] 9)) w.heap.size 9 1 (some ⟨w.heap.size, 0, none⟩) 1 1 ([otherL].map encNm) := own_one (Nat.le_refl _)
  have n2 := ((n1.alloc (.map #[] 0)).grown hg (fun a ha e => by injection ha with ha; subst ha; injection e with e; simp only at e; omega))
  have s3 : Own (w2.alloc (.cells #[.slice none 0 0] 111)) w.heap.size 111 1 (some ⟨w2.heap.size, 0, none⟩) 1 1 ([((none : Option Addr), 0, 0)].map encSl) := own_one (by omega)
  refine ⟨⟨?_, by omega, (n2.alloc _).alloc _, (hown.alloc _).alloc _, Nat.le_refl _, by omega, ?_, s3.alloc _, ⟨rfl, ?_⟩, by omega, by omega, fun a ha => by injection ha with ha; subst ha; show w.heap.size ≠ w2.heap.size + 2; omega, fun a ha => by injection ha with ha; subst ha; show w2.heap.size ≠ w2.heap.size + 2; omega⟩, ?_⟩
  · have := Blk.new (w2.alloc (.cells #[.slice none 0 0] 111)) 101 #[.slice (some ⟨w.heap.size, 0, none⟩) 1 1, .map (some (w.heap.size + 1)), .slice (some ⟨w2.heap.size, 0, none⟩) 1 1, .slice none 0 0]
    simpa using this
  · rw [hD]; exact MapIs.nil_.put otherL rfl
  · intro k x l hx hl
    match k, hx, hl with
    | 0, hx, hl => simp at hx hl; subst hx; subst hl; exact Own.nil_ _ _ _ _
    | k + 1, hx, hl => simp at hx
  · have h1 : Below w.heap.size w ((w.alloc (.cells #[.string (bytesOf otherL)] 9)).alloc (.map #[] 0)) := ((Below.refl _ _).alloc (Nat.le_refl _) _).alloc (by simp) _
    have h2 := h1.grown hg (by simp; omega) (fun k hk => by injection hk with hk; omega)
    exact (h2.alloc (by omega) _).alloc (by simp; omega) _

set_option maxRecDepth 100000 in
set_option maxHeartbeats 8000000 in
theorem wNew_any (t : List UInt8) (w : World) (hE : Env w) (ht : t.length ≤ maxLen) :
    Calls Tryz.prog 50 #[.string (bytesOf t)] w fun e w' => NewEnd (newP t) e w' ∧ Below w.heap.size w w' := by
  have hsz : (bytesOf t).size = t.length := bytesOf_size t
  have hmm := @run_makeMap Tryz.prog
  unfold maxLen at ht
  by_cases hl : 65536 < t.length
  · have HE := Lib.hid (newP_long hl)
    go_enter Tryz.func50, Tryz.ntmps50
    go_wp2
    go_ret3
    exact ⟨NewEnd.err HE.out, Below.refl _ _⟩
  · have HG := Lib.hid (newP_go hl)
    obtain ⟨m, hm⟩ := hE.max
    have Hm := Lib.hid hm
    clear hm
    go_enter Tryz.func50, Tryz.ntmps50
    have hkey : keyOf Tryz.prog 9 (.string ⟨#[79, 116, 104, 101, 114]⟩) = some (.string otherL) := keyS (n := otherL) (by decide)
    have ho0 := World.ownsMap_made (H := Unit) (w.alloc (.cells #[.string (bytesOf otherL)] 9)) Tryz.prog 9 (plainElem (H := Unit) Tryz.prog 3)
    rw [show (w.alloc (.cells #[.string (bytesOf otherL)] 9)).heap.size = w.heap.size + 1 by simp] at ho0
    go_wp2_with ((refine wpList_insert_own _ rfl _ _ _ 98 rfl 9 3 keyedS Tryz.underlying98 _ (w.heap.size + 1) 0 (.map []) rfl ho0 (by unfold maxLen; omega) _ _ (.string otherL) rfl rfl hkey _ [] (plainElem_int Tryz.underlying3 (WalkArith.wf_i64 (by omega))) ?_; intro w2 hown2 hg2))
    have hF := dbX_first rfl hown2 hg2
    have hg2s := hg2.size
    obtain ⟨hX, hB0⟩ := hF
    have hsx : w2.heap.size + 2 = (((w2.alloc (.cells #[.slice none 0 0] 111)).alloc (.cells #[.slice (some ⟨w.heap.size, 0, none⟩) 1 1, .map (some (w.heap.size + 1)), .slice (some ⟨w2.heap.size, 0, none⟩) 1 1, .slice none 0 0] 101))).heap.size := by simp
    generalize ((w2.alloc (.cells #[.slice none 0 0] 111)).alloc (.cells #[.slice (some ⟨w.heap.size, 0, none⟩) 1 1, .map (some (w.heap.size + 1)), .slice (some ⟨w2.heap.size, 0, none⟩) 1 1, .slice none 0 0] 101)) = w3 at hX hB0 hsx ⊢
    rw [hsx] at hX
    have HS := Lib.hid (Tryz.strings_Split (bytesOf t) ⟨#[10]⟩ m w3 (by omega) (cell_keep Hm.out hB0) (show 1 ≤ 1 by omega))
    obtain ⟨L, HL⟩ : ∃ L, Hid (splitL t = L) := ⟨_, rfl⟩
    have hsp := split_lines (bytesOf t)
    have hc0 := Lib.splitB_all ⟨#[10]⟩ (show 1 ≤ 1 by omega) 0 _ (bytesOf t) rfl
    rw [bytesOf_list, HL.out, show bytesOf [10] = ⟨#[10]⟩ from rfl] at hsp
    generalize Lib.splitB ⟨#[10]⟩ 0 (Lib.countB (bytesOf t) ⟨#[10]⟩) (bytesOf t) = SP at HS hsp hc0
    have hcount : Lib.countB (bytesOf t) ⟨#[10]⟩ + 1 = L.length := by rw [← hc0, ← hsp, List.length_map]
    rw [hcount] at HS
    have HLl := Lib.hid (fun i l (h : L[i]? = some l) => line_len (t := t) (i := i) (l := l) (by rw [HL.out]; exact h))
    have HLn : Hid (L.length ≤ 65537) := Lib.hid (by rw [← HL.out, splitL_count]; have := List.count_le_length (a := (10 : UInt8)) (l := t); omega)
    have HSP : Hid (∀ i l, L[i]? = some l → SP[i]? = some (bytesOf l)) := Lib.hid (fun i l h => by
      rw [← hsp, List.getElem?_map] at h
      cases hq : SP[i]? with
      | none => rw [hq] at h; cases h
      | some s => rw [hq] at h; simp at h; rw [← h, bytesOf_data])
    have HNP : Hid (newP t = linesGo DbP.first L 0) := Lib.hid (by rw [HG.out, HL.out])
    have hX4 := hX.below ((Below.refl _ _).alloc (Nat.le_refl _) (.cells (SP.map Value.string).toArray 9))
    have hB4 : Below w.heap.size w (w3.alloc (.cells (SP.map Value.string).toArray 9)) := hB0.alloc (by have := hB0.size; omega) _
    have hb4 := Blk.new w3 9 (SP.map Value.string).toArray
    have hx4 : w3.heap.size < (w3.alloc (.cells (SP.map Value.string).toArray 9)).heap.size := by simp
    refine HS.out.mono ?_
    rintro e w4 ⟨rfl, rfl⟩
    clear hX hB0 HS HG HL hc0 hsp hcount Hm hown2 hg2 hg2s hsx ho0 hmm hkey
    generalize w3.alloc (.cells (SP.map Value.string).toArray 9) = w4 at hX4 hB4 hb4 hx4 ⊢
    generalize w3.heap.size = x at hX4 hb4 hx4 ⊢
    generalize w2.heap.size + 1 = p at hX4 ⊢
    have hsw := hB4.size
    have HCell : Hid (∀ i l, L[i]? = some l → w4.cell? ⟨x, i, none⟩ = some (.string (bytesOf l))) := Lib.hid (fun i l h => by
      rw [hb4.cell i]; have := HSP.out i l h; simp [this])
    clear hb4 HSP
    go_wp2_with fail
    go_loopw [21] (fun v wr => ∃ (i : Nat) (d : DbP), v = .int .i64 i ∧ i ≤ L.length ∧ DbB wr w.heap.size p x d ∧ wr.heap[x]? = w4.heap[x]? ∧ Hid (NewAt L i d) ∧ Below w.heap.size w wr ∧ x < wr.heap.size) (fun v _ => L.length - (intOf v).toNat)
    case atStart => exact ⟨0, DbP.first, rfl, by omega, ⟨_, _, _, _, _, _, _, _, _, _, hX4⟩, rfl, newAt_first L, hB4, hx4⟩
    case round =>
      clear hX4
      obtain ⟨i, d, rfl, hi, hd, hxr, HN, hb, hxl⟩ := hrel
      have hszr := hb.size
      by_cases hlt : i < L.length
      · obtain ⟨l, Hl⟩ : ∃ l, Hid (L[i]? = some l) := ⟨_, Lib.hid (List.getElem?_eq_getElem hlt)⟩
        have hcell : wr.cell? ⟨x, i, none⟩ = some (.string (bytesOf l)) := (World.cell?_of_block hxr).trans (HCell.out i l Hl.out)
        have hll := HLl.out i l Hl.out
        have hlu := lineU_len l
        have HW := Lib.hid (wline_any (bytesOf l) wr (hE.tabs.below (hb.mono (Nat.le_refl _))) (by rw [bytesOf_size]; omega))
        rw [bytesOf_list] at HW
        have HN2 := HLn.out
        by_cases hu : lineU l = []
        · have hem : (bytesOf (lineU l)).toList.isEmpty = true := by rw [ByteArray.toList_eq, bytesOf_list, hu]; rfl
          have HN' := Lib.hid (newAt_next HN.out Hl.out (step_nil hu))
          clear hu
          go_wp2_with (go_at_call 87; refine HW.out.mono ?_; rintro e w5 ⟨rfl, hb5⟩)
          go_roundw
          case rel => exact ⟨i + 1, d, by go_num, by omega, hd.below hb5, (hb5.block x hxl).trans hxr, HN', below_step hb hb5 hszr, Nat.lt_of_lt_of_le hxl hb5.size⟩
          case measure => simp [intOf]; omega
        · have hem : (bytesOf (lineU l)).toList.isEmpty = false := by
            rw [ByteArray.toList_eq, bytesOf_list]
            cases hq : lineU l with
            | nil => exact absurd hq hu
            | cons a b => rfl
          have HST := Lib.hid (step_add (d := d) hu)
          clear hu
          go_wp2_with fail
          refine HW.out.mono ?_
          rintro e w5 ⟨rfl, hb5⟩
          have hb5w := below_step hb hb5 hszr
          have hx5 := Nat.lt_of_lt_of_le hxl hb5.size
          have hxr5 := (hb5.block x hxl).trans hxr
          have HA := Lib.hid (wadd_any p w.heap.size x d (lineU l) w5 (hd.below hb5) HN.out.2.2.1 hx5 hb5w.size (hE.tabs.below hb5w) (hE.max.below hb5w) (by omega))
          go_wp2_with fail
          refine HA.out.mono ?_
          rintro e w6 ⟨hk, hae⟩
          have hb6 := hb5w.trans hk.1
          cases hs : addS d (lineU l) with
          | error k =>
            rw [hs] at hae HST
            have he : e = .returned (.int .i64 k) := hae
            subst he
            have hk0 : ((k : Int) != 0) = true := by rw [bne_iff_ne]; have := addS_err hs; omega
            have HE := Lib.hid (HNP.out.trans (newAt_err HN.out Hl.out HST.out))
            clear hs hae
            go_wp2
            go_ret3
            exact ⟨NewEnd.err HE.out, hb6⟩
          | ok d' =>
            rw [hs] at hae HST
            obtain ⟨rfl, hd'⟩ := hae
            have HN' := Lib.hid (newAt_next HN.out Hl.out HST.out)
            clear hs
            go_wp2
            go_roundw
            case rel => exact ⟨i + 1, d', by go_num, by omega, hd', (hk.2 hx5).trans hxr5, HN', hb6, Nat.lt_of_lt_of_le hx5 hk.1.size⟩
            case measure => simp [intOf]; omega
      · have HE := Lib.hid (HNP.out.trans (newAt_end HN.out hlt))
        have HC := Lib.hid (wclose_any p w.heap.size x d wr hd HN.out.2.2.1 HN.out.2.2.2 hszr)
        go_wp2_with (go_at_call 89; refine HC.out.mono ?_; rintro e w5 ⟨rfl, hda, hb5⟩)
        go_ret3
        exact ⟨NewEnd.fine HE.out hda, hb.trans hb5⟩
end Go.Proofs.YtinfnfgflcjfmaaGreatDoor

/-
  props.(*Db).Text, walked.
-/
namespace Go.Proofs.YtinfnfgflcjfmaaGreatDoor
open Go.RowKit Go.Maps

theorem textG_le (N : List (List UInt8)) (S : List (List (Int × Int))) (k : Nat) (hN : ∀ n ∈ N, n.length ≤ 32) (hk : N.length ≤ 64) (hS : lenS S ≤ 1114112) : (textG (N.take k) (S.take k)).length ≤ 30000000 := by
  have h1 := textG_len (N.take k) (S.take k)
  have h2 : lenS (S.take k) ≤ lenS S := by
    have h3 : lenS S = lenS (S.take k) + lenS (S.drop k) := by
      conv => lhs; rw [← List.take_append_drop k S]
      exact lenS_append _ _
    omega
  have h4 : ∀ (M : List (List UInt8)), (∀ n ∈ M, n.length ≤ 32) → lenS M ≤ 32 * M.length := by
    intro M hM
    induction M with
    | nil => simp [lenS]
    | cons a r ih => have := hM a (by simp); have := ih (fun n hn => hM n (by simp [hn])); simp only [lenS, List.length_cons]; omega
  have h5 := h4 (N.take k) (fun n hn => hN n (List.mem_of_mem_take hn))
  rw [List.length_take] at h1 h5
  omega

theorem itemT_ne (x : Int × Int) : itemT x ≠ [] := fun h => by
  unfold itemT at h
  have := (List.append_eq_nil_iff.1 h).1
  unfold spellP at this
  simp at this

end Go.Proofs.YtinfnfgflcjfmaaGreatDoor

/-
  kerflaw04: num, live, walked.
-/
namespace Go.Proofs.YtinfnfgflcjfmaaGreatDoor
open Go.RowKit Go.Maps
theorem small_of : ofC smallD ⟨#[101, 204, 129, 255]⟩ = [2, 1, 0] := by
  have h : runesP ⟨#[101, 204, 129, 255]⟩ = [(101, 0, 1), (769, 1, 3), (65533, 3, 4)] := by decide +kernel
  unfold ofC
  rw [h]
  obtain ⟨h1, h2, h3⟩ := small_get
  show [smallD.get 101, smallD.get 769, smallD.get 65533] = [2, 1, 0]
  rw [h1, h2, h3]

end Go.Proofs.YtinfnfgflcjfmaaGreatDoor

/-
  kerfref04: blank, trim, cut, walked.
-/
namespace Go.Proofs.YtinfnfgflcjfmaaGreatDoor
open Go.RowKit Go.Maps

theorem blk_true {c : UInt8} (h : (c.toNat : Int) = 32 ∨ (c.toNat : Int) = 9) : blkB c = true := by
  have h1 : c = 32 ↔ c.toNat = 32 := u8_eq (n := 32) (by omega)
  have h2 : c = 9 ↔ c.toNat = 9 := u8_eq (n := 9) (by omega)
  simp only [blkB, Bool.or_eq_true, beq_iff_eq, h1, h2]; omega
theorem blk_false {c : UInt8} (h : ¬ ((c.toNat : Int) = 32 ∨ (c.toNat : Int) = 9)) : blkB c = false := by
  cases hb : blkB c with
  | false => rfl
  | true =>
    have h1 : c = 32 ↔ c.toNat = 32 := u8_eq (n := 32) (by omega)
    have h2 : c = 9 ↔ c.toNat = 9 := u8_eq (n := 9) (by omega)
    refine absurd ?_ h
    simp only [blkB, Bool.or_eq_true, beq_iff_eq, h1, h2] at hb; omega
theorem vblank_any (c : UInt8) (w : World) : Calls Tryz.prog 172 #[.int .u8 (c.toNat : Int)] w fun e w' => e = .returned (.bool (blkB c)) ∧ w = w' := by
  have HT := Lib.hid (@blk_true c)
  have HF := Lib.hid (@blk_false c)
  generalize (c.toNat : Int) = z at HT HF
  rcases (by omega : z = 32 ∨ z = 9 ∨ (z ≠ 32 ∧ z ≠ 9)) with h | h | ⟨h, h'⟩
  · have HV := Lib.hid (HT.out (.inl h))
    subst h
    go_enter Tryz.func172, Tryz.ntmps172
    go_wp2
    go_ret
    exact ⟨by rw [HV.out]; rfl, rfl⟩
  · have HV := Lib.hid (HT.out (.inr h))
    subst h
    go_enter Tryz.func172, Tryz.ntmps172
    go_wp2
    go_ret
    exact ⟨by rw [HV.out]; rfl, rfl⟩
  · have HV := Lib.hid (HF.out (by omega))
    have h1 : (z == 32) = false := beq_eq_false_iff_ne.2 h
    have h2 : (z == 9) = false := beq_eq_false_iff_ne.2 h'
    go_enter Tryz.func172, Tryz.ntmps172
    go_wp2
    go_ret
    exact ⟨by rw [HV.out]; rfl, rfl⟩

def strSize : Value → Nat
  | .string s => s.size
  | _ => 0
set_option maxRecDepth 100000 in
set_option maxHeartbeats 2000000 in
theorem vtrim_any (L : List UInt8) (w : World) (hL : L.length ≤ 1000000) : Calls Tryz.prog 137 #[.string (bytesOf L)] w fun e w' => e = .returned (.string (bytesOf (trimL L))) ∧ w = w' := by
  have HTE := Lib.hid (trimL_eq L)
  go_enter Tryz.func137, Tryz.ntmps137
  go_wp2
  go_loopw [0] (fun v wr => ∃ l : List UInt8, v = .string (bytesOf l) ∧ l.length ≤ L.length ∧ Hid (l.dropWhile blkB = L.dropWhile blkB) ∧ wr = w) (fun v _ => strSize v)
  case atStart => exact ⟨L, rfl, by omega, rfl, rfl⟩
  case round =>
    obtain ⟨l, rfl, hl, HD, rfl⟩ := hrel
    have hsz : (bytesOf l).size = l.length := bytesOf_size l
    by_cases hb : ∃ c r, l = c :: r ∧ blkB c = true
    · obtain ⟨c, r, rfl, hc⟩ := hb
      have h0 : 0 < (bytesOf (c :: r)).size := by rw [hsz]; simp
      have hix := index_at (bytesOf (c :: r)) 0 0 rfl h0
      have hg : (bytesOf (c :: r))[0]'h0 = c := by have := get_list h0; rw [bytesOf_list] at this; simpa using this.symm
      rw [hg] at hix
      have hgi : (((bytesOf (c :: r))[0]'h0).toNat : Int) = (c.toNat : Int) := by rw [hg]
      have HX := Lib.hid (ext_bytes (c :: r) 1)
      rw [hsz] at HX
      have hl2 : (r.length : Int) + 1 ≤ 1000000 := by simp at hl; omega
      clear hg
      go_wp2_with (go_at_call 172; refine (vblank_any c _).mono ?_; rw [hc]; rintro e w' ⟨rfl, rfl⟩)
      go_roundw
      case rel => exact ⟨r, by first | exact congrArg Value.string HX.out | (rw [← ext_bytes (c :: r) 1]; rfl), by simp at hl; omega, Lib.hid (by rw [← HD.out, drop_blank hc]), by first | rfl | trivial⟩
      case measure => simp only [strSize, ByteArray.size_extract, bytesOf_size, List.length_cons]; omega
    · have HLD : Hid (l = L.dropWhile blkB) := Lib.hid (by
        rw [← HD.out]
        cases l with
        | nil => rfl
        | cons c r =>
          have : blkB c = false := by
            cases hq : blkB c with
            | false => rfl
            | true => exact absurd ⟨c, r, rfl, hq⟩ hb
          exact (dropWhile_stop this).symm)
      have HTR : Hid (trimL L = trimR l) := Lib.hid (by rw [HTE.out, HLD.out])
      have hstop : l = [] ∨ ∃ c r, l = c :: r ∧ blkB c = false := by
        cases l with
        | nil => exact .inl rfl
        | cons c r =>
          refine .inr ⟨c, r, rfl, ?_⟩
          cases hq : blkB c with
          | false => rfl
          | true => exact absurd ⟨c, r, rfl, hq⟩ hb
      clear hb HD HLD
      rcases hstop with rfl | ⟨c, r, rfl, hc⟩
      · have HT0 : Hid (trimL L = []) := Lib.hid (by rw [HTR.out]; rfl)
        have hz0 : (bytesOf []).size = 0 := rfl
        go_wp2_with fail
        go_loopw [0] (fun v wq => v = .string (bytesOf []) ∧ wq = wr) (fun _ _ => 0)
        case atStart => exact ⟨rfl, rfl⟩
        case round =>
          obtain ⟨rfl, rfl⟩ := hrel
          go_wp2
          go_ret
          exact ⟨by rw [HT0.out]; rfl, rfl⟩
      · have h0 : 0 < (bytesOf (c :: r)).size := by rw [hsz]; simp
        have hix := index_at (bytesOf (c :: r)) 0 0 rfl h0
        have hg : (bytesOf (c :: r))[0]'h0 = c := by have := get_list h0; rw [bytesOf_list] at this; simpa using this.symm
        rw [hg] at hix
        have hgi : (((bytesOf (c :: r))[0]'h0).toNat : Int) = (c.toNat : Int) := by rw [hg]
        clear hg
        go_wp2_with (go_at_call 172; refine (vblank_any c _).mono ?_; rw [hc]; rintro e w' ⟨rfl, rfl⟩)
        go_loopw [0] (fun v wq => ∃ l : List UInt8, v = .string (bytesOf l) ∧ l.length ≤ L.length ∧ Hid (trimR l = trimL L) ∧ wq = wr) (fun v _ => strSize v)
        case atStart => exact ⟨c :: r, rfl, hl, Lib.hid HTR.out.symm, rfl⟩
        case round =>
          clear hix hgi h0
          obtain ⟨l, rfl, hl2, HD, rfl⟩ := hrel
          have hsz2 : (bytesOf l).size = l.length := bytesOf_size l
          rcases List.eq_nil_or_concat l with rfl | ⟨o, y, rfl⟩
          · have HT0 : Hid (trimL L = []) := Lib.hid (by rw [← HD.out]; rfl)
            have hz0 : (bytesOf []).size = 0 := rfl
            go_wp2
            go_ret
            exact ⟨by rw [HT0.out]; rfl, rfl⟩
          · rw [List.concat_eq_append] at *
            have hlast : (o ++ [y]).getLast? = some y := by simp
            have hol : (o ++ [y]).length = o.length + 1 := by simp
            rw [hol] at hsz2 hl2
            have hp : o.length < (bytesOf (o ++ [y])).size := by omega
            have hix := index_at (bytesOf (o ++ [y])) ((o.length : Int) + 1 - 1) o.length (by omega) hp
            have hix2 := index_at (bytesOf (o ++ [y])) (o.length : Int) o.length rfl hp
            have hg : (bytesOf (o ++ [y]))[o.length]'hp = y := by have := get_list hp; rw [bytesOf_list] at this; simpa using this.symm
            rw [hg] at hix hix2
            have hgi : (((bytesOf (o ++ [y]))[o.length]'hp).toNat : Int) = (y.toNat : Int) := by rw [hg]
            clear hg
            cases hy : blkB y with
            | true =>
              have HX : Hid ((bytesOf (o ++ [y])).extract 0 o.length = bytesOf o) := Lib.hid (by rw [ext_bytes0]; simp)
              have HD' : Hid (trimR o = trimL L) := Lib.hid (by rw [← HD.out, (trim_last hlast).1 hy, hol, Nat.add_sub_cancel]; simp)
              go_wp2_with (go_at_call 172; refine (vblank_any y _).mono ?_; rw [hy]; rintro e w' ⟨rfl, rfl⟩)
              go_roundw
              case rel => exact ⟨o, congrArg Value.string HX.out, by omega, HD', by first | rfl | trivial⟩
              case measure => simp only [strSize, ByteArray.size_extract, bytesOf_size, List.length_append, List.length_singleton]; omega
            | false =>
              have HD' : Hid (trimL L = o ++ [y]) := Lib.hid (by rw [← HD.out, (trim_last hlast).2 hy])
              go_wp2_with (go_at_call 172; refine (vblank_any y _).mono ?_; rw [hy]; rintro e w' ⟨rfl, rfl⟩)
              go_ret
              exact ⟨by rw [HD'.out]; rfl, rfl⟩
end Go.Proofs.YtinfnfgflcjfmaaGreatDoor

/-
  kerflaw04: texts, ints, ranged, walked (two lists that are the same).
-/
namespace Go.Proofs.YtinfnfgflcjfmaaGreatDoor
open Go.RowKit Go.Maps

theorem Rd.atS {w : World} {A : Option Addr} {l : List (List UInt8)} {k : Nat} {x : List UInt8} (h : Rd w 1 A (l.map encNm)) (hk : l[k]? = some x) : ∃ b off, A = some ⟨b, off, none⟩ ∧ w.cell? ⟨b, off + k, none⟩ = some (.string (bytesOf x)) := by
  obtain ⟨b, off, rfl, hc⟩ := h (by intro e; cases l with | nil => simp at hk | cons _ _ => simp at e)
  have h0 := hc k 0 (encNm x) (.string (bytesOf x)) (by simp [hk]) rfl
  exact ⟨b, off, rfl, by simpa using h0⟩
theorem newP_code {t : List UInt8} {x : Int × Nat} (h : newP t = .error x) : 1 ≤ x.1 := by
  unfold newP at h
  split at h
  · injection h with h; subst h; decide
  · have key : ∀ (L : List (List UInt8)) (d : DbP) (i : Nat), linesGo d L i = .error x → 1 ≤ x.1 := by
      intro L
      induction L with
      | nil => intro d i h; cases h
      | cons a r ih =>
        intro d i h
        unfold linesGo at h
        split at h
        · rename_i e he
          injection h with h; subst h
          simp only
          unfold stepL at he
          split at he
          · cases he
          · injection he with he; omega
          · have := addL_err he; omega
        · exact ih _ _ h
    exact key _ _ _ h
end Go.Proofs.YtinfnfgflcjfmaaGreatDoor

/-
  kerfref04: cut, Class, meet, walked.
-/
namespace Go.Proofs.YtinfnfgflcjfmaaGreatDoor
open Go.RowKit Go.Maps

theorem ret_pair {a b c d : Value} (h1 : a = c) (h2 : b = d) : Ending.returned (.tuple #[a, b]) = .returned (.tuple #[c, d]) := by rw [h1, h2]
set_option maxRecDepth 100000 in
set_option maxHeartbeats 2000000 in
theorem vcut_any (L : List UInt8) (w : World) (hL : L.length ≤ 1000000) :
    Calls Tryz.prog 136 #[.string (bytesOf L)] w fun e w' => e = .returned (.tuple #[.string (bytesOf (L.take (hashP L))), .int .i64 (fv (findP 59 (L.take (hashP L))))]) ∧ Below w.heap.size w w' := by
  have HIS := Lib.hid (cutD_is L)
  have hsz : (bytesOf L).size = L.length := bytesOf_size L
  go_enter Tryz.func136, Tryz.ntmps136
  go_wp2
  go_loopw [4, 5] (fun a v wr => ∃ (semi : Option Nat) (i : Nat), a = .int .i64 (fv semi) ∧ v = .int .i64 i ∧ i ≤ L.length ∧ Hid (CutAt L i semi) ∧ Below w.heap.size w wr) (fun _ v _ => L.length - (intOf v).toNat)
  case atStart => exact ⟨none, 0, rfl, rfl, by omega, cutAt_first L, Below.refl _ _⟩
  case round =>
    obtain ⟨semi, i, rfl, rfl, hi, HC, hb⟩ := hrel
    by_cases hlt : i < L.length
    · have HQ := Lib.hid (sQuoted_any (bytesOf L) i wr (by omega) (by omega))
      have hqq := quoted_qt (bytesOf L) i (by omega)
      rw [bytesOf_list] at hqq
      have hp : i < (bytesOf L).size := by omega
      have hix := index_at (bytesOf L) i i rfl hp
      obtain ⟨x, hx⟩ : ∃ x, (bytesOf L)[i]'hp = x := ⟨_, rfl⟩
      have Hx : Hid (L[i]? = some x) := Lib.hid (by have := get_list hp; rw [bytesOf_list, hx] at this; exact this)
      have hgi : (((bytesOf L)[i]'hp).toNat : Int) = (x.toNat : Int) := by rw [hx]
      rw [hx] at hix
      clear hx
      cases hq : qtL (L.drop i) with
      | some k =>
        rw [hq] at hqq
        obtain ⟨q1, q2⟩ := hqq
        have HC' := Lib.hid (cutAt_qt HC.out hq)
        have hik : i + k ≤ L.length := HC'.out.1
        generalize quotedP (bytesOf L) i = Q at HQ q1 q2
        obtain ⟨r, wd, ok⟩ := Q
        simp only at q1 q2
        subst q1
        have hk3 := (qtL_some hq).1
        clear hq
        go_wp2_with (go_at_call 171; refine HQ.out.mono ?_; rintro e w2 ⟨rfl, hb2⟩)
        go_roundw
        case rel => exact ⟨semi, i + k, rfl, by go_num, hik, HC', below_step hb hb2 hb.size⟩
        case measure => simp [intOf]; omega
      | none =>
        rw [hq] at hqq
        generalize quotedP (bytesOf L) i = Q at HQ hqq
        obtain ⟨r, wd, ok⟩ := Q
        simp only at hqq
        subst hqq
        have h35 : x = 35 ↔ (x.toNat : Int) = 35 := by have h1 : x = 35 ↔ x.toNat = 35 := u8_eq (n := 35) (by omega); rw [h1]; omega
        have h59 : x = 59 ↔ (x.toNat : Int) = 59 := by have h1 : x = 59 ↔ x.toNat = 59 := u8_eq (n := 59) (by omega); rw [h1]; omega
        have HH := Lib.hid (fun h => cutAt_hash HC.out Hx.out hq (h35.2 h))
        have HS := Lib.hid (fun h hs => cutAt_semi HC.out Hx.out hq (h59.2 h) hs)
        have HGo := Lib.hid (fun (h : ¬ (x.toNat : Int) = 35) (hs : ¬ ((x.toNat : Int) = 59 ∧ semi = none)) => cutAt_go HC.out Hx.out hq (fun k => h (h35.1 k)) (fun k => hs ⟨h59.1 k.1, k.2⟩))
        generalize (x.toNat : Int) = z at hix hgi HH HS HGo
        clear h35 h59 hq
        rcases (by omega : z = 35 ∨ z = 59 ∨ (z ≠ 35 ∧ z ≠ 59)) with hz | hz | ⟨hz, hz'⟩
        · have HE := HH.out hz
          rw [HIS.out] at HE
          injection HE with HE1 HE2
          have HE1 := Lib.hid HE1
          have HE2 := Lib.hid HE2
          have hzz : (z == 35) = true := by rw [hz]; rfl
          clear hz HH HS HGo
          go_wp2_with (go_at_call 171; refine HQ.out.mono ?_; rintro e w2 ⟨rfl, hb2⟩)
          go_ret2
          have h1 := ext_bytes0 L i
          rw [← HE1.out] at h1
          exact ⟨ret_pair (congrArg Value.string (by first | exact h1 | (rw [HE1.out] at h1 ⊢; exact h1) | rfl)) (congrArg (Value.int .i64) (by rw [HE2.out])), below_step hb hb2 hb.size⟩
        · have hzz : (z == 35) = false := by rw [hz]; rfl
          have hzy : (z == 59) = true := by rw [hz]; rfl
          cases semi with
          | none =>
            have HC' := Lib.hid (HS.out hz rfl)
            have hfn : decide (fv none < 0) = true := rfl
            clear hz HH HS HGo
            go_wp2_with (go_at_call 171; refine HQ.out.mono ?_; rintro e w2 ⟨rfl, hb2⟩)
            go_roundw
            case rel => exact ⟨some i, i + 1, rfl, by go_num, by omega, HC', below_step hb hb2 hb.size⟩
            case measure => simp [intOf]; omega
          | some k =>
            have HC' := Lib.hid (HGo.out (by omega) (fun h => by cases h.2))
            have hfn : decide (fv (some k) < 0) = false := decide_eq_false (by simp only [fv]; omega)
            clear hz HH HS HGo
            go_wp2_with (go_at_call 171; refine HQ.out.mono ?_; rintro e w2 ⟨rfl, hb2⟩)
            go_roundw
            case rel => exact ⟨some k, i + 1, rfl, by go_num, by omega, HC', below_step hb hb2 hb.size⟩
            case measure => simp [intOf]; omega
        · have hzz : (z == 35) = false := beq_eq_false_iff_ne.2 hz
          have hzy : (z == 59) = false := beq_eq_false_iff_ne.2 hz'
          have HC' := Lib.hid (HGo.out hz (fun h => hz' h.1))
          clear hz hz' HH HS HGo
          go_wp2_with (go_at_call 171; refine HQ.out.mono ?_; rintro e w2 ⟨rfl, hb2⟩)
          go_roundw
          case rel => exact ⟨semi, i + 1, rfl, by go_num, by omega, HC', below_step hb hb2 hb.size⟩
          case measure => simp [intOf]; omega
    · have HE := cutAt_end HC.out hlt
      rw [HIS.out] at HE
      injection HE with HE1 HE2
      have HE1 := Lib.hid HE1
      have HE2 := Lib.hid HE2
      go_wp2
      go_ret2
      exact ⟨ret_pair (congrArg Value.string (by rw [HE1.out, List.take_length]; try rfl)) (by rw [HE2.out]; try rfl), hb⟩
end Go.Proofs.YtinfnfgflcjfmaaGreatDoor

/-
  kerfref04: Class, meet, walked.
-/
namespace Go.Proofs.YtinfnfgflcjfmaaGreatDoor
open Go.RowKit Go.Maps

/-- The document's database, its parts. -/
structure RfX (w : World) (base p x : Nat) (An : Option Addr) (nn cn : Nat) (As : Option Addr) (ns cs : Nat) (xs : List (Option Addr × Nat × Nat)) (N : List (List UInt8)) (S : List (List (Int × Int))) : Prop where
  blk : Blk w p 73 #[.slice An nn cn, .slice As ns cs]
  pb : base ≤ p
  hn : Own w base 9 1 An nn cn (N.map encNm)
  hs : Own w base 111 1 As ns cs (xs.map encSl)
  hx : Sets w base xs S
  xp : x ≠ p
  xn : ∀ a, An = some a → a.block ≠ x
  xs_ : ∀ a, As = some a → a.block ≠ x
structure RfB (w : World) (base p x : Nat) (N : List (List UInt8)) (S : List (List (Int × Int))) : Prop where
  ex : ∃ (An : Option Addr) (nn cn : Nat) (As : Option Addr) (ns cs : Nat) (xs : List (Option Addr × Nat × Nat)), RfX w base p x An nn cn As ns cs xs N S
section
variable {w w' : World} {base p x : Nat} {An : Option Addr} {nn cn : Nat} {As : Option Addr} {ns cs : Nat} {xs : List (Option Addr × Nat × Nat)} {N : List (List UInt8)} {S : List (List (Int × Int))}
theorem RfX.below (h : RfX w base p x An nn cn As ns cs xs N S) (hb : Below w.heap.size w w') : RfX w' base p x An nn cn As ns cs xs N S := ⟨h.blk.below hb, h.pb, h.hn.below hb, h.hs.below hb, h.hx.below hb, h.xp, h.xn, h.xs_⟩
theorem RfB.below (h : RfB w base p x N S) (hb : Below w.heap.size w w') : RfB w' base p x N S := by
  obtain ⟨a1, a2, a3, a4, a5, a6, a7, h⟩ := h.ex
  exact ⟨a1, a2, a3, a4, a5, a6, a7, h.below hb⟩
theorem RfX.lenN (h : RfX w base p x An nn cn As ns cs xs N S) : N.length = nn := by simpa using h.hn.len
theorem RfX.lenS (h : RfX w base p x An nn cn As ns cs xs N S) : xs.length = ns ∧ S.length = ns := by
  have := h.hs.len; rw [List.length_map] at this
  exact ⟨this, by rw [← h.hx.len]; exact this⟩
theorem types_rf : (9 : TypeId) ≠ 111 ∧ (9 : TypeId) ≠ 73 ∧ (111 : TypeId) ≠ 73 ∧ (9 : TypeId) ≠ 139 ∧ (111 : TypeId) ≠ 139 ∧ (73 : TypeId) ≠ 139 := by decide
/-- A name more. -/
theorem RfX.named {w3 : World} {o : Obj} {n : List UInt8} {A3 : Option Addr} {c3 : Nat} (h : RfX w base p x An nn cn As ns cs xs N S) (ho3 : Own w3 base 9 1 A3 (nn + 1) c3 ((N ++ [n]).map encNm))
    (hg3 : (w.alloc o).grownBy w3 (An.map (·.block))) (hA3 : A3 = An ∨ A3 = some ⟨(w.alloc o).heap.size, 0, none⟩) (hx : x < w.heap.size) (hB : base ≤ w.heap.size) :
    Blk w3 p 73 #[.slice An nn cn, .slice As ns cs] ∧ RfX (w3.setCell ⟨p, 0, none⟩ (.slice A3 (nn + 1) c3)) base p x A3 (nn + 1) c3 As ns cs xs (N ++ [n]) S ∧
      KX base x w (w3.setCell ⟨p, 0, none⟩ (.slice A3 (nn + 1) c3)) ∧ KeepR base w (w3.setCell ⟨p, 0, none⟩ (.slice A3 (nn + 1) c3)) := by
  obtain ⟨t1, t2, t3, t4, t5, t6⟩ := types_rf
  have hg := grown_alloc hg3
  have b3 : Blk w3 p 73 #[.slice An nn cn, .slice As ns cs] := h.blk.grown hg (fun e => by cases An with | none => cases e | some a => simp at e; exact h.hn.off h.blk t2 a rfl e.symm)
  have s3 : Own w3 base 111 1 As ns cs (xs.map encSl) := h.hs.grown hg (fun a ha e => by cases An with | none => cases e | some b => simp at e; exact h.hn.apart h.hs t1 b a rfl ha e.symm)
  have x3 : Sets w3 base xs S := h.hx.grown hg (fun g q e => own_not_R h.hn t4 g q e)
  have hxA3 : ∀ a, A3 = some a → a.block ≠ x := fun a ha => by
    rcases hA3 with e | e
    · exact h.xn a (by rw [← e]; exact ha)
    · rw [e] at ha; injection ha with ha; subst ha; simp; omega
  refine ⟨b3, ⟨?_, h.pb, ?_, ?_, ?_, h.xp, hxA3, h.xs_⟩, ?_, ?_⟩
  · have := b3.set_ 0 (.slice A3 (nn + 1) c3)
    simpa using this
  · exact ho3.setCell (fun a ha => ho3.off b3 t2 a ha) _
  · exact s3.setCell (fun a ha => s3.off b3 t3 a ha) _
  · exact x3.setCell (blk_not_R b3 t6) _
  · refine (KX.grown hg hB (fun k hk => ?_)).trans (KX.setCell w3 h.pb (fun e => h.xp e.symm) _)
    cases An with
    | none => cases hk
    | some a => simp at hk; subst hk; exact ⟨(h.hn.lt a rfl).1, h.xn a rfl⟩
  · exact (KeepR.grown hg (fun g q e => own_not_R h.hn t4 g q e)).trans (KeepR.setCell (blk_not_R b3 t6) _)
/-- A set more: none yet. -/
theorem RfX.moreSet {w3 : World} {o : Obj} {A3 : Option Addr} {c3 : Nat} (h : RfX w base p x An nn cn As ns cs xs N S) (ho3 : Own w3 base 111 1 A3 (ns + 1) c3 ((xs ++ [(none, 0, 0)]).map encSl))
    (hg3 : (w.alloc o).grownBy w3 (As.map (·.block))) (hA3 : A3 = As ∨ A3 = some ⟨(w.alloc o).heap.size, 0, none⟩) (hx : x < w.heap.size) (hB : base ≤ w.heap.size) :
    Blk w3 p 73 #[.slice An nn cn, .slice As ns cs] ∧ RfX (w3.setCell ⟨p, 1, none⟩ (.slice A3 (ns + 1) c3)) base p x An nn cn A3 (ns + 1) c3 (xs ++ [(none, 0, 0)]) N (S ++ [[]]) ∧
      KX base x w (w3.setCell ⟨p, 1, none⟩ (.slice A3 (ns + 1) c3)) ∧ KeepR base w (w3.setCell ⟨p, 1, none⟩ (.slice A3 (ns + 1) c3)) := by
  obtain ⟨t1, t2, t3, t4, t5, t6⟩ := types_rf
  have hg := grown_alloc hg3
  have b3 : Blk w3 p 73 #[.slice An nn cn, .slice As ns cs] := h.blk.grown hg (fun e => by cases As with | none => cases e | some a => simp at e; exact h.hs.off h.blk t3 a rfl e.symm)
  have n3 : Own w3 base 9 1 An nn cn (N.map encNm) := h.hn.grown hg (fun a ha e => by cases As with | none => cases e | some b => simp at e; exact h.hn.apart h.hs t1 a b ha rfl e)
  have x3 : Sets w3 base xs S := h.hx.grown hg (fun g q e => own_not_R h.hs t5 g q e)
  have hxA3 : ∀ a, A3 = some a → a.block ≠ x := fun a ha => by
    rcases hA3 with e | e
    · exact h.xs_ a (by rw [← e]; exact ha)
    · rw [e] at ha; injection ha with ha; subst ha; simp; omega
  refine ⟨b3, ⟨?_, h.pb, ?_, ?_, ?_, h.xp, h.xn, hxA3⟩, ?_, ?_⟩
  · have := b3.set_ 1 (.slice A3 (ns + 1) c3)
    simpa using this
  · exact n3.setCell (fun a ha => n3.off b3 t2 a ha) _
  · exact ho3.setCell (fun a ha => ho3.off b3 t3 a ha) _
  · exact (x3.setCell (blk_not_R b3 t6) _).snoc (Own.nil_ _ _ _ _)
  · refine (KX.grown hg hB (fun k hk => ?_)).trans (KX.setCell w3 h.pb (fun e => h.xp e.symm) _)
    cases As with
    | none => cases hk
    | some a => simp at hk; subst hk; exact ⟨(h.hs.lt a rfl).1, h.xs_ a rfl⟩
  · exact (KeepR.grown hg (fun g q e => own_not_R h.hs t5 g q e)).trans (KeepR.setCell (blk_not_R b3 t6) _)
/-- A set stored. -/
theorem RfX.storeSet {g k b' : Nat} {y : Option Addr × Nat × Nat} {l : List (Int × Int)} (h : RfX w base p x An nn cn (some ⟨g, 0, none⟩) ns cs xs N S) (hk : k < ns) (ho : Own w b' 139 2 y.1 y.2.1 y.2.2 (l.map encR)) (hb : base ≤ b') :
    RfX (w.setCell ⟨g, k, none⟩ (.slice y.1 y.2.1 y.2.2)) base p x An nn cn (some ⟨g, 0, none⟩) ns cs (xs.set k y) N (S.set k l) ∧ KX base x w (w.setCell ⟨g, k, none⟩ (.slice y.1 y.2.1 y.2.2)) := by
  obtain ⟨t1, t2, t3, t4, t5, t6⟩ := types_rf
  have hgp : g ≠ p := h.hs.off h.blk t3 _ rfl
  refine ⟨⟨h.blk.far (p := ⟨g, k, none⟩) (Ne.symm hgp) _, h.pb, ?_, ?_, ?_, h.xp, h.xn, h.xs_⟩, KX.setCell w (q := ⟨g, k, none⟩) (h.hs.lt _ rfl).1 (h.xs_ ⟨g, 0, none⟩ rfl) _⟩
  · exact h.hn.setCell (p := ⟨g, k, none⟩) (fun a ha e => h.hn.apart h.hs t1 a ⟨g, 0, none⟩ ha rfl e) _
  · exact h.hs.storedSl (by rw [h.lenS.1]; exact hk) y
  · refine Sets.set_ (h.hx.setCell (q := ⟨g, k, none⟩) (fun r => own_not_R h.hs t5 g r rfl) _) ?_
    exact (ho.setCell (p := ⟨g, k, none⟩) (fun a ha e => ho.apart h.hs (Ne.symm t5) a ⟨g, 0, none⟩ ha rfl e) _).more hb
end

theorem bytes_inj {a b : List UInt8} : bytesOf a = bytesOf b ↔ a = b := ⟨fun h => by rw [← bytesOf_list a, ← bytesOf_list b, h], fun h => by rw [h]⟩
/-- Behind how many names a name stands. -/
theorem idx_step {N : List (List UInt8)} {n y : List UInt8} {i : Nat} (h : n ∉ N.take i) (hy : N[i]? = some y) : (y = n → N.idxOf? n = some i) ∧ (y ≠ n → n ∉ N.take (i + 1)) := by
  constructor
  · rintro rfl
    rw [List.idxOf?, List.findIdx?_eq_some_iff_getElem]
    obtain ⟨hlt, e⟩ := List.getElem?_eq_some_iff.1 hy
    refine ⟨hlt, by simp [e], fun j hj => ?_⟩
    simp only [Bool.not_eq_true, beq_eq_false_iff_ne]
    intro hjy
    exact h (List.mem_take_iff_getElem.2 ⟨j, by omega, by simpa using hjy⟩)
  · intro hne hm
    rw [List.take_add_one, hy] at hm
    simp at hm
    rcases hm with hm | hm
    · exact h hm
    · exact hne hm.symm
theorem idx_none {N : List (List UInt8)} {n : List UInt8} (h : n ∉ N) : N.idxOf? n = none := by
  rw [List.idxOf?, List.findIdx?_eq_none_iff]
  intro x hx
  simp only [beq_eq_false_iff_ne]
  rintro rfl; exact h hx
set_option maxRecDepth 100000 in
set_option maxHeartbeats 1000000 in
theorem vClass_any (base p x : Nat) (N : List (List UInt8)) (S : List (List (Int × Int))) (n : List UInt8) (w : World) (h : RfB w base p x N S) (hN : N.length ≤ 1000000) :
    Calls Tryz.prog 106 #[.pointer (some ⟨p, 0, none⟩), .string (bytesOf n)] w fun e w' => e = .returned (.tuple #[.int .i64 (((N.idxOf? n).getD 0 : Nat) : Int), .bool (N.idxOf? n).isSome]) ∧ w = w' := by
  obtain ⟨An, nn, cn, As, ns, cs, xs, hX⟩ := h.ex
  have hl := hX.lenN
  have Hl := Lib.hid hl
  have hrd := hX.hn.rd (by omega)
  have c0 := hX.blk.cell 0
  simp only [List.getElem?_toArray, List.getElem?_cons_zero] at c0
  have hnn : nn ≤ 1000000 := by omega
  clear hl h
  go_enter Tryz.func106, Tryz.ntmps106
  go_wp2
  go_loopw [6] (fun v wr => ∃ i : Nat, v = .int .i64 i ∧ i ≤ nn ∧ Hid (n ∉ N.take i) ∧ wr = w) (fun v _ => nn - (intOf v).toNat)
  case atStart => exact ⟨0, rfl, by omega, by simp [Hid], rfl⟩
  case round =>
    obtain ⟨i, rfl, hi, HN, rfl⟩ := hrel
    by_cases hlt : i < nn
    · obtain ⟨y, Hy⟩ : ∃ y, Hid (N[i]? = some y) := ⟨_, Lib.hid (List.getElem?_eq_getElem (show i < N.length by have := Hl.out; omega))⟩
      obtain ⟨b, off, rfl, hc⟩ := hrd.atS Hy.out
      have HI := Lib.hid (idx_step HN.out Hy.out)
      by_cases hyn : y = n
      · have HE := Lib.hid (HI.out.1 hyn)
        subst hyn
        go_wp2
        go_ret2
        exact ⟨by rw [HE.out]; rfl, rfl⟩
      · have HE := Lib.hid (HI.out.2 hyn)
        have e1 : ((bytesOf y).toList == (bytesOf n).toList) = false := by rw [ByteArray.toList_eq, ByteArray.toList_eq, bytesOf_list, bytesOf_list]; exact beq_eq_false_iff_ne.2 hyn
        have e3 : decide (bytesOf y = bytesOf n) = false := decide_eq_false (fun k => hyn (bytes_inj.1 k))
        clear hyn
        go_wp2
        go_roundw
        case rel => exact ⟨i + 1, by go_num, by omega, HE, by first | rfl | trivial⟩
        case measure => simp [intOf]; omega
    · have HE := Lib.hid (idx_none (N := N) (n := n) (by have := HN.out; rwa [List.take_of_length_le (by have := Hl.out; omega)] at this))
      go_wp2
      go_ret2
      exact ⟨by rw [HE.out]; rfl, rfl⟩
end Go.Proofs.YtinfnfgflcjfmaaGreatDoor

/-
  kerfref04: meet, walked.
-/
namespace Go.Proofs.YtinfnfgflcjfmaaGreatDoor
open Go.RowKit Go.Maps

def hitR (x y : Int × Int) : Bool := decide (x.1 ≤ y.2) && decide (y.1 ≤ x.2)
theorem meetB_any (a b : List (Int × Int)) : meetB a b = a.any fun x => b.any fun y => hitR x y := rfl
theorem any_next {α : Type} {l : List α} {i : Nat} {x : α} {f : α → Bool} (h : (l.take i).any f = false) (hx : l[i]? = some x) (hf : f x = false) : (l.take (i + 1)).any f = false := by
  rw [List.take_add_one, hx]; simp [List.any_append, h, hf]
theorem any_hit {α : Type} {l : List α} {i : Nat} {x : α} {f : α → Bool} (hx : l[i]? = some x) (hf : f x = true) : l.any f = true := List.any_eq_true.2 ⟨x, List.mem_of_getElem? hx, hf⟩
theorem any_all {α : Type} {l : List α} {i : Nat} {f : α → Bool} (h : (l.take i).any f = false) (hi : ¬ i < l.length) : l.any f = false := by rwa [List.take_of_length_le (by omega)] at h
set_option maxRecDepth 100000 in
set_option maxHeartbeats 2000000 in
theorem vmeet_any (A B : Option Addr) (n c m e : Nat) (l q : List (Int × Int)) (w : World) (hA : Rd w 2 A (l.map encR)) (hB : Rd w 2 B (q.map encR)) (hl : l.length = n) (hq : q.length = m) (hn : n ≤ 4000000) (hm : m ≤ 4000000) :
    Calls Tryz.prog 141 #[.slice A n c, .slice B m e] w fun e w' => e = .returned (.bool (meetB l q)) ∧ ∃ k, w' = w.drewN k := by
  have Hl := Lib.hid hl
  have Hq := Lib.hid hq
  have HMB := Lib.hid (meetB_any l q)
  go_enter Tryz.func141, Tryz.ntmps141
  go_wp2
  go_loopw [5] (fun v wr => ∃ i k : Nat, v = .int .i64 i ∧ i ≤ n ∧ Hid ((l.take i).any (fun x => q.any fun y => hitR x y) = false) ∧ wr = w.drewN k) (fun v _ => n - (intOf v).toNat)
  case atStart => exact ⟨0, 0, rfl, by omega, by simp [Hid], rfl⟩
  case round =>
    obtain ⟨i, k, rfl, hi, HI, rfl⟩ := hrel
    by_cases hlt : i < n
    · obtain ⟨bA, oA, x1, x2, rfl, Hx, hx1, hx2⟩ := hA.atR (k := i) (by have := Hl.out; omega)
      have hdi : decide (i < n) = true := decide_eq_true hlt
      go_wp2_with fail
      go_loopw [6] (fun v wr => ∃ j k2 : Nat, v = .int .i64 j ∧ j ≤ m ∧ Hid ((q.take j).any (fun y => hitR (x1, x2) y) = false) ∧ wr = w.drewN k2) (fun v _ => m - (intOf v).toNat)
      case atStart => exact ⟨0, k, rfl, by omega, by simp [Hid], rfl⟩
      case round =>
        obtain ⟨j, k2, rfl, hj, HJ, rfl⟩ := hrel
        by_cases hltj : j < m
        · obtain ⟨bB, oB, y1, y2, rfl, Hy, hy1, hy2⟩ := hB.atR (k := j) (by have := Hq.out; omega)
          rcases (by omega : ¬ x1 ≤ y2 ∨ (x1 ≤ y2 ∧ ¬ y1 ≤ x2) ∨ (x1 ≤ y2 ∧ y1 ≤ x2)) with h1 | ⟨h1, h2⟩ | ⟨h1, h2⟩
          · have HJ' := Lib.hid (any_next HJ.out Hy.out (show hitR (x1, x2) (y1, y2) = false by simp [hitR, h1]))
            have hd1 : decide (x1 ≤ y2) = false := decide_eq_false h1
            go_wp2_with fail
            go_quiet (fail)
            go_wp2
            go_roundw
            case rel => exact ⟨j + 1, _, by go_num, by omega, HJ', by first | rfl | exact World.drewN_drewN _ _ _⟩
            case measure => simp [intOf]; omega
          · have HJ' := Lib.hid (any_next HJ.out Hy.out (show hitR (x1, x2) (y1, y2) = false by simp [hitR, h2]))
            have hd1 : decide (x1 ≤ y2) = true := decide_eq_true h1
            have hd2 : decide (y1 ≤ x2) = false := decide_eq_false h2
            go_wp2_with fail
            go_quiet (fail)
            go_wp2
            go_roundw
            case rel => exact ⟨j + 1, _, by go_num, by omega, HJ', by first | rfl | exact World.drewN_drewN _ _ _⟩
            case measure => simp [intOf]; omega
          · have HE : Hid (meetB l q = true) := Lib.hid (by rw [HMB.out]; exact any_hit Hx.out (any_hit Hy.out (show hitR (x1, x2) (y1, y2) = true by simp [hitR, h1, h2])))
            have hd1 : decide (x1 ≤ y2) = true := decide_eq_true h1
            have hd2 : decide (y1 ≤ x2) = true := decide_eq_true h2
            go_wp2_with fail
            go_quiet (fail)
            go_wp2
            go_ret
            exact ⟨by rw [HE.out]; rfl, _, by first | rfl | exact World.drewN_drewN _ _ _⟩
        · have HI' := Lib.hid (any_next HI.out Hx.out (any_all HJ.out (show ¬ j < q.length by have := Hq.out; omega)))
          go_wp2
          go_roundw
          case rel => exact ⟨i + 1, k2, by go_num, by omega, HI', rfl⟩
          case measure => simp [intOf]; omega
    · have HE : Hid (meetB l q = false) := Lib.hid (by rw [HMB.out]; exact any_all HI.out (show ¬ i < l.length by have := Hl.out; omega))
      go_wp2
      go_ret
      exact ⟨by rw [HE.out]; rfl, k, rfl⟩
end Go.Proofs.YtinfnfgflcjfmaaGreatDoor

/-
  kerfref04: spaced, Lines, walked.
-/
namespace Go.Proofs.YtinfnfgflcjfmaaGreatDoor
open Go.RowKit Go.Maps

/-- A block of bytes that can be written. -/
structure Byt (w : World) (b : Nat) (L : List UInt8) : Prop where
  cell : ∀ j (h : j < L.length), w.cell? ⟨b, j, none⟩ = some (.int .u8 ((L[j]'h).toNat : Int))
  free : ∀ j, j < L.length → w.frozen? ⟨b, j, none⟩ = false
theorem Byt.set_ {w : World} {b : Nat} {L : List UInt8} (h : Byt w b L) {i : Nat} (hi : i < L.length) (c : UInt8) (v : Int) (hv : v = (c.toNat : Int)) : Byt (w.setCell ⟨b, i, none⟩ (.int .u8 v)) b (L.set i c) := by
  subst hv
  refine ⟨fun j hj => ?_, fun j hj => ?_⟩
  · rw [List.length_set] at hj
    by_cases e : i = j
    · subst e
      rw [World.cell?_setCell_same _ _ _ (h.cell i hi)]; simp
    · rw [World.cell?_setCell_other _ _ _ _ (fun k => e (by injection k)), h.cell j hj]; simp [List.getElem_set_ne e]
  · rw [List.length_set] at hj
    rw [World.frozen?_setCell]; exact h.free j hj
theorem byt_world (w : World) (l : List UInt8) : Byt (Lib.bytesWorld w 5 (bytesOf l)) w.heap.size l := by
  refine ⟨fun j hj => ?_, fun j hj => ?_⟩
  · have h1 := Lib.bytesWorld_cell w 5 (bytesOf l) j (by rw [bytesOf_size]; exact hj)
    rw [bytesOf_list, List.getD_eq_getElem?_getD, List.getElem?_eq_getElem hj] at h1
    exact h1
  · unfold World.frozen?
    rw [Lib.bytesWorld_at_new]
    have hc : l.length ≤ (Lib.bytesCells w 5 (bytesOf l)).size := by
      simp [Lib.bytesCells]
      rw [bytesOf_size]; omega
    simp; omega
set_option maxRecDepth 100000 in
set_option maxHeartbeats 2000000 in
theorem vspaced_any (l : List UInt8) (w : World) (hs : l.length ≤ 1000000) : Calls Tryz.prog 140 #[.string (bytesOf l)] w fun e w' => e = .returned (.string (bytesOf (spcL l))) ∧ Below w.heap.size w w' := by
  have hcv := fun W => Lib.run_convert_string_bytes (P := Tryz.prog) W 9 96 5 (bytesOf l) Tryz.underlying9 Tryz.underlying96 Tryz.underlying5
  have hsz : (bytesOf l).size = l.length := bytesOf_size l
  have Hlen : Hid ((spcL l).length = l.length) := Lib.hid (by unfold spcL; rw [List.length_map])
  go_enter Tryz.func140, Tryz.ntmps140
  go_wp2
  have hby := byt_world w l
  have hbw := below_bytesWorld w 5 (bytesOf l)
  generalize Lib.bytesWorld w 5 (bytesOf l) = w1 at hby hbw ⊢
  clear hcv
  go_loopw [4] (fun v wr => ∃ i : Nat, v = .int .i64 i ∧ i ≤ l.length ∧ Byt wr w.heap.size ((spcL l).take i ++ l.drop i) ∧ Below w.heap.size w wr) (fun v _ => l.length - (intOf v).toNat)
  case atStart => exact ⟨0, rfl, by omega, by simpa using hby, hbw⟩
  case round =>
    clear hby hbw
    obtain ⟨i, rfl, hi, hB, hb⟩ := hrel
    have hll : ((spcL l).take i ++ l.drop i).length = l.length := by rw [List.length_append, List.length_take, List.length_drop, Hlen.out]; omega
    by_cases hlt : i < l.length
    · obtain ⟨x, Hx⟩ : ∃ x, Hid (l[i]? = some x) := ⟨_, Lib.hid (List.getElem?_eq_getElem hlt)⟩
      have hgx : ((spcL l).take i ++ l.drop i)[i]'(by omega) = x := by
        have h1 : ((spcL l).take i ++ l.drop i)[i]? = some x := by
          rw [List.getElem?_append_right (by rw [List.length_take, Hlen.out]; omega), List.length_take, Hlen.out, Nat.min_eq_left (by omega), Nat.sub_self, List.getElem?_drop]; exact Hx.out
        obtain ⟨_, h2⟩ := List.getElem?_eq_some_iff.1 h1
        exact h2
      have hc := hB.cell i (by omega)
      rw [hgx] at hc
      have hf := hB.free i (by omega)
      have hnext : ∀ y, y = (if x = 9 then 32 else x) → ((spcL l).take i ++ l.drop i).set i y = (spcL l).take (i + 1) ++ l.drop (i + 1) := fun y hy => by
        have h1 : (spcL l)[i]? = some y := by unfold spcL; rw [List.getElem?_map, Hx.out, hy]; rfl
        rw [drop_at Hx.out, List.take_add_one, h1]
        have h2 : ((spcL l).take i).length = i := by rw [List.length_take, Hlen.out]; omega
        have h3 := set_mid ((spcL l).take i) x y (l.drop (i + 1))
        rw [h2] at h3
        rw [h3]; simp
      by_cases hx9 : x = 9
      · have hz : ((x.toNat : Int) == 9) = true := by rw [hx9]; rfl
        have HN := Lib.hid (hnext 32 (by rw [if_pos hx9]))
        have HB := Lib.hid (hB.set_ (i := i) (by omega) 32 32 rfl)
        rw [HN.out] at HB
        clear hnext hx9 hgx
        go_wp2
        go_roundw
        case rel => exact ⟨i + 1, by go_num, by omega, HB.out, hb.setCell (p := ⟨w.heap.size, i, none⟩) (Nat.le_refl _) _⟩
        case measure => simp [intOf]; omega
      · have hz : ((x.toNat : Int) == 9) = false := beq_eq_false_iff_ne.2 (fun e => hx9 ((u8_eq (n := 9) (by omega)).2 (by omega)))
        have HN := Lib.hid (hnext x (by rw [if_neg hx9]))
        have hsame : ((spcL l).take i ++ l.drop i).set i x = (spcL l).take i ++ l.drop i := by
          conv => lhs; rw [← hgx]
          exact List.set_getElem_self _
        rw [hsame] at HN
        clear hnext hx9 hgx hsame
        go_wp2
        go_roundw
        case rel => exact ⟨i + 1, by go_num, by omega, by rw [← HN.out]; exact hB, hb⟩
        case measure => simp [intOf]; omega
    · have HE : Hid ((spcL l).take i ++ l.drop i = spcL l) := Lib.hid (by rw [List.take_of_length_le (by rw [Hlen.out]; omega), List.drop_of_length_le (by omega), List.append_nil])
      rw [HE.out] at hB
      have hcb := fun c => run_convert_bytes_back (P := Tryz.prog) wr 96 9 5 ⟨w.heap.size, 0, none⟩ c (spcL l) Tryz.underlying96 Tryz.underlying5 Tryz.underlying9 (fun k hk => by
        have e : (⟨w.heap.size, 0, none⟩ : Addr).add k = ⟨w.heap.size, k, none⟩ := by
          unfold Addr.add
          split
          · rename_i h0; rw [h0]
          · simp
        rw [e]; exact hB.cell k hk)
      rw [Hlen.out] at hcb
      go_wp2
      go_ret
      exact ⟨rfl, hb⟩
theorem take_sub {l : List UInt8} {a b : Nat} : (bytesOf l).extract a b = bytesOf ((l.drop a).take (b - a)) := ext_bytes2 l a b
set_option maxRecDepth 100000 in
set_option maxHeartbeats 2000000 in
theorem vLines_any (t : List UInt8) (w : World) (ht : t.length ≤ 1000000) :
    Calls Tryz.prog 94 #[.string (bytesOf t)] w fun e w' => ∃ A n c, e = .returned (.slice A n c) ∧ Own w' w.heap.size 9 1 A n c ((splitL t).map encNm) ∧ Below w.heap.size w w' := by
  obtain ⟨i0, hi0, hz0, hz1, hz2⟩ := info_parts info_cloneS
  have hsz : (bytesOf t).size = t.length := bytesOf_size t
  go_enter Tryz.func94, Tryz.ntmps94
  go_wp2
  go_loopw [3, 4, 5] (fun a f v wr => ∃ (i frm : Nat) (done : List (List UInt8)) (A : Option Addr) (n c : Nat), a = .slice A n c ∧ f = .int .i64 frm ∧ v = .int .i64 i ∧ i ≤ t.length ∧ n ≤ i ∧ frm ≤ i ∧ Hid (LinesAt t i frm done) ∧ Own wr w.heap.size 9 1 A n c (done.map encNm) ∧ Below w.heap.size w wr) (fun _ _ v _ => t.length - (intOf v).toNat)
  case atStart => exact ⟨0, 0, [], none, 0, 0, rfl, rfl, rfl, by omega, by omega, by omega, LinesAt.start t, Own.nil_ _ _ _ _, Below.refl _ _⟩
  case round =>
    obtain ⟨i, frm, done, A, n, c, rfl, rfl, rfl, hi, hni, hfi, HL, ho, hb⟩ := hrel
    have hszr := hb.size
    by_cases hlt : i < t.length
    · have hp : i < (bytesOf t).size := by omega
      have hix := index_at (bytesOf t) i i rfl hp
      obtain ⟨x, hx⟩ : ∃ x, (bytesOf t)[i]'hp = x := ⟨_, rfl⟩
      have Hx : Hid (t[i]? = some x) := Lib.hid (by have := get_list hp; rw [bytesOf_list, hx] at this; exact this)
      have hgi : (((bytesOf t)[i]'hp).toNat : Int) = (x.toNat : Int) := by rw [hx]
      rw [hx] at hix
      clear hx
      by_cases hx10 : x = 10
      · have hz : ((x.toNat : Int) == 10) = true := by rw [hx10]; rfl
        have HL' := Lib.hid (LinesAt.line HL.out (by rw [Hx.out, hx10]))
        have HX := Lib.hid (take_sub (l := t) (a := frm) (b := i))
        clear hx10
        go_wp2_with (at_builtin; go_must (refine wpList_app rfl (.tmp 16) (.tmp 21) _ rfl w.heap.size 9 i0 _ 1 16 Tryz.underlying34 hi0 hz0 hz1 hz2 rfl (by omega) A n c (done.map encNm) rfl (ho.alloc _) _ 1 1 [encNm ((t.drop frm).take (i - frm))] rfl rfl (Rd.newAt (by simp) (by simp [encNm, HX.out])) (encNm_ok [(t.drop frm).take (i - frm)]) (by unfold maxLen; omega) (by omega) (by simp; omega) ?_); intro A3 c3 w3 ho3 hg3 hA3; have hb3 := below_app (hb.alloc (by omega) _) hg3 (by simp; omega) (fun a ha => (ho.lt a ha).1); clear hg3)
        have Ho3 : Own w3 w.heap.size 9 1 A3 (n + 1) c3 ((done ++ [(t.drop frm).take (i - frm)]).map encNm) := by rw [List.map_append]; exact ho3
        clear ho3
        go_roundw
        case rel => exact ⟨i + 1, i + 1, _, A3, n + 1, c3, rfl, by go_num, by go_num, by omega, by omega, by omega, HL', Ho3, hb3⟩
        case measure => simp [intOf]; omega
      · have hz : ((x.toNat : Int) == 10) = false := beq_eq_false_iff_ne.2 (fun e => hx10 ((u8_eq (n := 10) (by omega)).2 (by omega)))
        have HL' := Lib.hid (LinesAt.byte HL.out Hx.out hx10)
        clear hx10
        go_wp2
        go_roundw
        case rel => exact ⟨i + 1, frm, done, A, n, c, rfl, rfl, by go_num, by omega, by omega, by omega, HL', ho, hb⟩
        case measure => simp [intOf]; omega
    · obtain rfl : i = t.length := by omega
      have HE := Lib.hid (LinesAt.done HL.out)
      have HX := Lib.hid (ext_bytes t frm)
      rw [hsz] at HX
      go_wp2_with (at_builtin; go_must (refine wpList_app rfl (.tmp 25) (.tmp 29) _ rfl w.heap.size 9 i0 _ 1 16 Tryz.underlying34 hi0 hz0 hz1 hz2 rfl (by omega) A n c (done.map encNm) rfl (ho.alloc _) _ 1 1 [encNm (t.drop frm)] rfl rfl (Rd.newAt (by simp) (by simp [encNm, HX.out])) (encNm_ok [t.drop frm]) (by unfold maxLen; omega) (by omega) (by simp; omega) ?_); intro A3 c3 w3 ho3 hg3 hA3; have hb3 := below_app (hb.alloc (by omega) _) hg3 (by simp; omega) (fun a ha => (ho.lt a ha).1); clear hg3)
      go_ret
      exact ⟨A3, n + 1, c3, rfl, by rw [HE.out, List.map_append]; exact ho3, hb3⟩
end Go.Proofs.YtinfnfgflcjfmaaGreatDoor

/-
  kerflaw04.PropsBack, walked.
-/
namespace Go.Proofs.YtinfnfgflcjfmaaGreatDoor
open Go.RowKit Go.Maps

theorem setI_at {d : DbP} {i : Nat} {s : List (Int × Int)} (h : d.full[i]? = some s) : d.setI (i : Int) = s := by
  unfold DbP.setI
  rw [if_pos (by omega), List.getD_eq_getElem?_getD, show ((i : Int).toNat) = i by omega, h]; rfl
end Go.Proofs.YtinfnfgflcjfmaaGreatDoor

/-
  kerfref04: Get, Set, Text, walked.
-/
namespace Go.Proofs.YtinfnfgflcjfmaaGreatDoor
open Go.RowKit Go.Maps

theorem getGo_hit {q : Int} {i : Nat} {s : List (Int × Int)} {S : List (List (Int × Int))} (h : hasB s q = true) : getGo q i (s :: S) = i := by unfold getGo; rw [if_pos h]
theorem getGo_miss {q : Int} {i : Nat} {s : List (Int × Int)} {S : List (List (Int × Int))} (h : hasB s q = false) : getGo q i (s :: S) = getGo q (i + 1) S := by conv => lhs; unfold getGo; rw [if_neg (by rw [h]; simp)]
theorem getGo_end {q : Int} {i : Nat} : getGo q i [] = 0 := rfl
set_option maxRecDepth 100000 in
set_option maxHeartbeats 4000000 in
theorem vGet_any (base p x : Nat) (d : DbP) (r : Int) (w : World) (h : RfB w base p x d.names d.full) (ho : d.Ok) (hap : Apart d.sets) :
    Calls Tryz.prog 54 #[.pointer (some ⟨p, 0, none⟩), .int .i32 r] w fun e w' => e = .returned (.int .i64 (d.get r : Nat)) ∧ w = w' := by
  obtain ⟨An, nn, cn, As, ns, cs, xs, hX⟩ := h.ex
  have hls := hX.lenS
  have hfl := full_len ho
  have hn0 : 0 < ns := by
    have h3 := ho.head
    cases hd : d.names with
    | nil => rw [hd] at h3; cases h3
    | cons a b => rw [hd] at hfl; simp at hfl; omega
  have hn64 : ns ≤ 64 := by have := ho.few; omega
  obtain ⟨g, rfl, _, _⟩ := hX.hs.form hn0
  have c1 := hX.blk.cell 1
  simp only [List.getElem?_toArray, List.getElem?_cons_zero, List.getElem?_cons_succ] at c1
  have HF := Lib.hid (fun i s (hi : d.full[i]? = some s) => full_small ho hap hi)
  have HG : Hid (d.get r = getGo (askR r) 1 d.full.tail) := rfl
  have Hls := Lib.hid (show d.full.length = ns from hls.2)
  have hcase : (r < 0 ∧ askR r = 65533) ∨ (¬ r < 0 ∧ 1114111 < r ∧ askR r = 65533) ∨ (¬ r < 0 ∧ ¬ 1114111 < r ∧ askR r = r) := by
    unfold askR; split <;> omega
  obtain ⟨q, hq⟩ : ∃ q, askR r = q := ⟨_, rfl⟩
  rw [hq] at HG hcase
  clear ho hap h hfl hq
  rcases hcase with ⟨h1, rfl⟩ | ⟨h1, h2, rfl⟩ | ⟨h1, h2, rfl⟩
  · go_enter Tryz.func54, Tryz.ntmps54
    go_wp2_with fail
    go_loopw [5] (fun v wr => ∃ k : Nat, v = .int .i64 (k + 1 : Nat) ∧ k + 1 ≤ ns ∧ wr = w ∧ Hid (d.get r = getGo 65533 (k + 1) (d.full.tail.drop k))) (fun v _ => ns - (intOf v).toNat)
    case atStart => exact ⟨0, rfl, by omega, rfl, by rw [List.drop_zero]; exact HG⟩
    case round =>
      obtain ⟨k, rfl, hk, rfl, HK⟩ := hrel
      by_cases hlt : k + 1 < ns
      · obtain ⟨s, Hs⟩ : ∃ s, Hid (d.full[k + 1]? = some s) := ⟨_, Lib.hid (List.getElem?_eq_getElem (show k + 1 < d.full.length by have := Hls.out; omega))⟩
        obtain ⟨⟨yA, yn, yc⟩, Hy⟩ : ∃ y, Hid (xs[k + 1]? = some y) := ⟨_, Lib.hid (List.getElem?_eq_getElem (show k + 1 < xs.length by omega))⟩
        have hoy : Own wr base 139 2 yA yn yc (s.map encR) := hX.hx.own (k + 1) (yA, yn, yc) s Hy.out Hs.out
        have hly : s.length = yn := by simpa using hoy.len
        have hsm := HF.out _ s Hs.out
        have hcell := hX.hs.cell' rfl Hy.out
        have HH := Lib.hid (sHas_any yA yn yc s 65533 wr (hoy.rd (by omega)) hly (by omega))
        have HD := Lib.hid (drop_at (show d.full.tail[k]? = some s by rw [List.getElem?_tail]; exact Hs.out))
        have hI : (k : Int) + 1 < ns := by omega
        rw [HD.out] at HK
        cases hv : hasB s 65533 with
        | true =>
          have HE := Lib.hid (HK.out.trans (getGo_hit hv))
          rw [hv] at HH
          clear hv hly
          go_wp2_with (go_at_call 97; refine HH.out.mono ?_; rintro e w2 ⟨rfl, rfl⟩)
          go_ret
          exact ⟨by rw [HE.out]; rfl, rfl⟩
        | false =>
          have HE := Lib.hid (HK.out.trans (getGo_miss hv))
          rw [hv] at HH
          clear hv hly
          go_wp2_with (go_at_call 97; refine HH.out.mono ?_; rintro e w2 ⟨rfl, rfl⟩)
          go_roundw
          case rel => exact ⟨k + 1, by go_num, by omega, by first | rfl | trivial, HE⟩
          case measure => simp [intOf]; omega
      · have HE : Hid (d.get r = 0) := Lib.hid (by rw [HK.out, List.drop_of_length_le (by rw [List.length_tail]; have := Hls.out; omega)]; rfl)
        obtain rfl : k + 1 = ns := by omega
        go_wp2
        go_ret
        exact ⟨by rw [HE.out]; rfl, rfl⟩
  · go_enter Tryz.func54, Tryz.ntmps54
    go_wp2_with fail
    go_loopw [5] (fun v wr => ∃ k : Nat, v = .int .i64 (k + 1 : Nat) ∧ k + 1 ≤ ns ∧ wr = w ∧ Hid (d.get r = getGo 65533 (k + 1) (d.full.tail.drop k))) (fun v _ => ns - (intOf v).toNat)
    case atStart => exact ⟨0, rfl, by omega, rfl, by rw [List.drop_zero]; exact HG⟩
    case round =>
      obtain ⟨k, rfl, hk, rfl, HK⟩ := hrel
      by_cases hlt : k + 1 < ns
      · obtain ⟨s, Hs⟩ : ∃ s, Hid (d.full[k + 1]? = some s) := ⟨_, Lib.hid (List.getElem?_eq_getElem (show k + 1 < d.full.length by have := Hls.out; omega))⟩
        obtain ⟨⟨yA, yn, yc⟩, Hy⟩ : ∃ y, Hid (xs[k + 1]? = some y) := ⟨_, Lib.hid (List.getElem?_eq_getElem (show k + 1 < xs.length by omega))⟩
        have hoy : Own wr base 139 2 yA yn yc (s.map encR) := hX.hx.own (k + 1) (yA, yn, yc) s Hy.out Hs.out
        have hly : s.length = yn := by simpa using hoy.len
        have hsm := HF.out _ s Hs.out
        have hcell := hX.hs.cell' rfl Hy.out
        have HH := Lib.hid (sHas_any yA yn yc s 65533 wr (hoy.rd (by omega)) hly (by omega))
        have HD := Lib.hid (drop_at (show d.full.tail[k]? = some s by rw [List.getElem?_tail]; exact Hs.out))
        have hI : (k : Int) + 1 < ns := by omega
        rw [HD.out] at HK
        cases hv : hasB s 65533 with
        | true =>
          have HE := Lib.hid (HK.out.trans (getGo_hit hv))
          rw [hv] at HH
          clear hv hly
          go_wp2_with (go_at_call 97; refine HH.out.mono ?_; rintro e w2 ⟨rfl, rfl⟩)
          go_ret
          exact ⟨by rw [HE.out]; rfl, rfl⟩
        | false =>
          have HE := Lib.hid (HK.out.trans (getGo_miss hv))
          rw [hv] at HH
          clear hv hly
          go_wp2_with (go_at_call 97; refine HH.out.mono ?_; rintro e w2 ⟨rfl, rfl⟩)
          go_roundw
          case rel => exact ⟨k + 1, by go_num, by omega, by first | rfl | trivial, HE⟩
          case measure => simp [intOf]; omega
      · have HE : Hid (d.get r = 0) := Lib.hid (by rw [HK.out, List.drop_of_length_le (by rw [List.length_tail]; have := Hls.out; omega)]; rfl)
        obtain rfl : k + 1 = ns := by omega
        go_wp2
        go_ret
        exact ⟨by rw [HE.out]; rfl, rfl⟩
  · go_enter Tryz.func54, Tryz.ntmps54
    go_wp2_with fail
    go_loopw [5] (fun v wr => ∃ k : Nat, v = .int .i64 (k + 1 : Nat) ∧ k + 1 ≤ ns ∧ wr = w ∧ Hid (d.get q = getGo q (k + 1) (d.full.tail.drop k))) (fun v _ => ns - (intOf v).toNat)
    case atStart => exact ⟨0, rfl, by omega, rfl, by rw [List.drop_zero]; exact HG⟩
    case round =>
      obtain ⟨k, rfl, hk, rfl, HK⟩ := hrel
      by_cases hlt : k + 1 < ns
      · obtain ⟨s, Hs⟩ : ∃ s, Hid (d.full[k + 1]? = some s) := ⟨_, Lib.hid (List.getElem?_eq_getElem (show k + 1 < d.full.length by have := Hls.out; omega))⟩
        obtain ⟨⟨yA, yn, yc⟩, Hy⟩ : ∃ y, Hid (xs[k + 1]? = some y) := ⟨_, Lib.hid (List.getElem?_eq_getElem (show k + 1 < xs.length by omega))⟩
        have hoy : Own wr base 139 2 yA yn yc (s.map encR) := hX.hx.own (k + 1) (yA, yn, yc) s Hy.out Hs.out
        have hly : s.length = yn := by simpa using hoy.len
        have hsm := HF.out _ s Hs.out
        have hcell := hX.hs.cell' rfl Hy.out
        have HH := Lib.hid (sHas_any yA yn yc s q wr (hoy.rd (by omega)) hly (by omega))
        have HD := Lib.hid (drop_at (show d.full.tail[k]? = some s by rw [List.getElem?_tail]; exact Hs.out))
        have hI : (k : Int) + 1 < ns := by omega
        rw [HD.out] at HK
        cases hv : hasB s q with
        | true =>
          have HE := Lib.hid (HK.out.trans (getGo_hit hv))
          rw [hv] at HH
          clear hv hly
          go_wp2_with (go_at_call 97; refine HH.out.mono ?_; rintro e w2 ⟨rfl, rfl⟩)
          go_ret
          exact ⟨by rw [HE.out]; rfl, rfl⟩
        | false =>
          have HE := Lib.hid (HK.out.trans (getGo_miss hv))
          rw [hv] at HH
          clear hv hly
          go_wp2_with (go_at_call 97; refine HH.out.mono ?_; rintro e w2 ⟨rfl, rfl⟩)
          go_roundw
          case rel => exact ⟨k + 1, by go_num, by omega, by first | rfl | trivial, HE⟩
          case measure => simp [intOf]; omega
      · have HE : Hid (d.get q = 0) := Lib.hid (by rw [HK.out, List.drop_of_length_le (by rw [List.length_tail]; have := Hls.out; omega)]; rfl)
        obtain rfl : k + 1 = ns := by omega
        go_wp2
        go_ret
        exact ⟨by rw [HE.out]; rfl, rfl⟩
end Go.Proofs.YtinfnfgflcjfmaaGreatDoor

/-
  WHAT THE LISTED VARIABLES GIVE (the tables of utf8); a world that bears them all, for the witness.
-/
namespace Go.Proofs.YtinfnfgflcjfmaaGreatDoor
open Go.ChangeShapes Go.WideShapes Go.ChangeAt Go.RowKit Go.Lib Go.Shelf

theorem ownK : ownKnob Tryz.prog.godebug = none := by kernel_rfl
set_option maxRecDepth 100000 in
theorem accept_eq : (Rows.laid_unicode_utf8_acceptRanges : DataW Unit) = acceptData := by kernel_rfl
theorem tabs_of_laid {W : World} (hL : laidMetH Tryz.prog Rows.lineTrailsRow.laid W) : Tabs W := by
  have h1 := laidMet.reads hL (.tail _ (.tail _ (.tail _ (.tail _ (.tail _ (.tail _ (.head _)))))))
  have h2 := laidMet.reads hL (.tail _ (.tail _ (.tail _ (.head _))))
  rw [show (Rows.laid_unicode_utf8_first : DataW Unit) = firstData from Pinned.utf8First_eq] at h1
  rw [accept_eq] at h2
  exact utf8Tabs_of_reads (ρ := Tryz.lays260_ren) { Tryz.lays260 with } ⟨by kernel_rfl, by kernel_rfl, by kernel_rfl, by kernel_rfl, by kernel_rfl, by kernel_rfl, by kernel_rfl⟩ h1 h2

def deB64 : List Int := [0, 1, 56, 2, 57, 49, 28, 3, 61, 58, 42, 50, 38, 29, 17, 4, 62, 47, 59, 36, 45, 43, 51, 22, 53, 39, 33, 30, 24, 18, 12, 5, 63, 55, 48, 27, 60, 41, 37, 16, 46, 35, 44, 21, 52, 32, 23, 11, 54, 26, 40, 15, 34, 20, 31, 10, 25, 14, 19, 9, 13, 8, 7, 6]
theorem tabB_of_laid {W : World} (hL : laidMetH Tryz.prog Rows.lineTrailsRow.laid W) : TabB W := by
  have h := laidMet.reads hL (.tail _ (.head _))
  rw [show (Rows.laid_math_bits_deBruijn64tab : DataW Unit) = tabData .u8 deB64 by kernel_rfl] at h
  obtain ⟨g, t, cs, fuel, p, hg, hty, hvar, hd⟩ := h
  obtain rfl := Option.some.inj ((show Tryz.prog.globalNamed "math/bits.deBruijn64tab" = some 7 by kernel_rfl).symm.trans hg)
  obtain rfl := Option.some.inj ((show (Tryz.prog.globals[(7 : Nat)]?).map (·.type) = some 250 by kernel_rfl).symm.trans hty)
  have hcs := cells_of_tab Tryz.underlying250 Tryz.underlying5 (by kernel_rfl) (by kernel_rfl) hd
  have := World.var?_cell hg hvar 15
  unfold TabB
  rw [this, ← Array.getElem?_toList, hcs]; rfl

theorem env_of_laid {W : World} (hL : laidMetH Tryz.prog Rows.lineTrailsRow.laid W) (hS : W.ShapedOpen Tryz.prog) : Env W :=
  ⟨tabs_of_laid hL, cell_of_shapedOpen_int hS (g := 2) (t := 3) (zero := #[.int .i64 0]) (of_decide_eq_true (by kernel_rfl)) (by kernel_rfl) rfl (by kernel_rfl) (by kernel_rfl) Tryz.underlying3, tabB_of_laid hL⟩

/-- THE WITNESS's WORLD: the settled one with two blocks more (the two errors' structs); the variables hold what their initialisers lay. -/
noncomputable def laidWorld (os : Os) : World :=
  let N := (World.settled Tryz.prog os).heap.size
  let w0 := World.holding Tryz.prog os ⟨#[.cells #[.string ⟨#[118, 97, 108, 117, 101, 32, 111, 117, 116, 32, 111, 102, 32, 114, 97, 110, 103, 101]⟩] 240, .cells #[.string ⟨#[105, 110, 118, 97, 108, 105, 100, 32, 115, 121, 110, 116, 97, 120]⟩] 240], #[], []⟩
  let put (h : Array Obj) (g : Nat) (cs : Array Value) : Array Obj := h.modify g fun
    | .cells _ t frozen => .cells cs t frozen
    | o => o
  let h1 := put w0.heap 0 (firstTab.map fun z => Value.int .u8 z).toArray
  let h2 := put h1 1 ((List.range 16).flatMap fun i => [Value.int .u8 (accLo i), Value.int .u8 (accHi i)]).toArray
  let h3 := put h2 3 #[.iface 238 (.pointer (some ⟨N + 1, 0, none⟩))]
  let h4 := put h3 4 #[.iface 238 (.pointer (some ⟨N, 0, none⟩))]
  let h5 := put h4 5 ((List.range 20).map fun i => Value.int .u64 (10 ^ i : Nat)).toArray
  let h6 := put h5 6 ([0, 1, 28, 2, 29, 14, 24, 3, 30, 22, 20, 15, 25, 17, 4, 8, 31, 27, 13, 23, 21, 19, 16, 7, 26, 12, 18, 6, 11, 5, 10, 9].map fun (z : Int) => Value.int .u8 z).toArray
  let h7 := put h6 7 ([0, 1, 56, 2, 57, 49, 28, 3, 61, 58, 42, 50, 38, 29, 17, 4, 62, 47, 59, 36, 45, 43, 51, 22, 53, 39, 33, 30, 24, 18, 12, 5, 63, 55, 48, 27, 60, 41, 37, 16, 46, 35, 44, 21, 52, 32, 23, 11, 54, 26, 40, 15, 34, 20, 31, 10, 25, 14, 19, 9, 13, 8, 7, 6].map fun (z : Int) => Value.int .u8 z).toArray
  { w0 with heap := h7 }
set_option maxRecDepth 1000000 in
theorem laid_in (os : Os) (args : Array Value) : LaidIn Tryz.prog ((laidWorld os).forCall (fun _ _ => 0) ⟨#[], args, []⟩).memory Rows.lineTrailsRow.laid [0, 1, 3, 4, 5, 6, 7, (World.settled Tryz.prog default).heap.size, (World.settled Tryz.prog default).heap.size + 1] :=
  LaidIn.of_run [0, 1, 3, 4, 5, 6, 7, (World.settled Tryz.prog default).heap.size, (World.settled Tryz.prog default).heap.size + 1] 8 (by kernel_rfl) (by kernel_rfl) (by kernel_rfl) (by kernel_rfl)
end Go.Proofs.YtinfnfgflcjfmaaGreatDoor

