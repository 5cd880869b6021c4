/-
  Several texts in one, in their build order: Wh, Ga, Gb, Gd, Gf, Gh, Go, Gp, Na, Wi, Wj, Vb, Qt, Vd, PrB, PrC, PrD, PrE, PrG, PrJ, Vf, PrK.
-/
import Derived.Deep.CutRange
import Derived.ScopeJumps
import Derived.WalkMore
import Derived.RegionTactic
import Derived.BigRegion
import Derived.OwnWalk
import Derived.Deep.DeepCutAuto
import Derived.Test.YtdnkignhenkamaaGreatDoorSWf
import Derived.Test.YtdnkignhenkamaaGreatDoorSWg
import Derived.Test.YtdnkignhenkamaaGreatDoorS1a
import Derived.Test.YtdnkignhenkamaaGreatDoorS3a
import Derived.Test.YtdnkignhenkamaaGreatDoorSShelf
import Derived.Test.YtdnkignhenkamaaGreatDoorS2a
import Derived.Test.YtdnkignhenkamaaGreatDoorS0a
import Derived.Test.YtdnkignhenkamaaGreatDoorSRdr
import Derived.Test.YtdnkignhenkamaaGreatDoorS1b
import Derived.Test.YtdnkignhenkamaaGreatDoorSWa
import Derived.Test.YtdnkignhenkamaaGreatDoorSPrA
import Derived.Test.YtdnkignhenkamaaGreatDoorS5a
/- -/
namespace Go.Proofs.YtdnkignhenkamaaGreatDoor
open Go.RowKit Go.Maps
structure Env (w : World) : Prop where
  tabs : Tabs w
  max : MaxW w
  tabB : TabB w
theorem Env.below {w w' : World} (h : Env w) (hb : Below w.heap.size w w') : Env w' := ⟨h.tabs.below hb, h.max.below hb, cell_keep h.tabB hb⟩
theorem wpList_insert_own {H : Type} {P : Program} (w : World) {ops : Array Oper} {rest : List Oper} {o : Oper} {a : Act} {Q : Exit → Act → World → Prop}
    (hg : o.guard = none) (m x v : Operand) (t : TypeId) (hop : o.op = Op.insert t m x v)
    (k e : TypeId) (K : Keyed P k) (ht : P.underlying t = some (.map k e)) (R : Value → Option (DataW H × List MemPlace)) (b n : Nat) (D : DataW H)
    (hm : a.eval m = .map (some b)) (hown : w.ownsMap P k R b n D) (hn : n < maxLen) (key val : Value) (kl : Lit) (hx : a.eval x = key) (hv : a.eval v = val) (hkey : keyOf P k key = some kl)
    (d : DataW H) (ps : List MemPlace) (hval : R val = some (d, ps))
    (hK : ∀ w', w'.ownsMap P k R b (n + 1) (D.put kl d) → w.grownBy w' (some b) → wpList P ops Q rest (a.put o.dst undef) w') :
    wpList P ops Q (o :: rest) a w := by
  refine wpList_plain hg fun K' hK' => ?_
  obtain ⟨w', hrun, r1, r2⟩ := hown.update K ht hn hkey hval
  unfold Oper.wp
  simp [execOp, hop, hm, hx, hv, hrun, Result.andThen]
  exact hK' _ _ (hK w' r1 r2)
theorem mem_lenL : ∀ {L : List (List UInt8)} {l : List UInt8}, l ∈ L → l.length + 1 ≤ lenL L
  | [], l, h => by simp at h
  | a :: L, l, h => by
    rcases List.mem_cons.1 h with rfl | h
    · simp only [lenL]; omega
    · have := mem_lenL h; simp only [lenL]; omega
theorem line_len {t : List UInt8} {i : Nat} {l : List UInt8} (h : (splitL t)[i]? = some l) : l.length ≤ t.length := by
  have := mem_lenL (List.mem_of_getElem? h); rw [split_len] at this; omega
theorem addL_err {d : DbP} {n s : List UInt8} {k : Int} (h : addL d n s = .error k) : 6 ≤ k := by
  unfold addL at h
  split at h
  · injection h with h; omega
  · split at h
    · rename_i e he
      injection h with h; subst h
      unfold parseE at he
      split at he
      · rename_i y hy
        injection he with he
        have := parse_code hy; omega
      · cases he
    · split at h
      · split at h
        · injection h with h; omega
        · cases h
      · split at h
        · injection h with h; omega
        · split at h
          · injection h with h; omega
          · cases h
theorem addS_err {d : DbP} {u : List UInt8} {k : Int} (h : addS d u = .error k) : 6 ≤ k := by
  unfold addS at h
  split at h
  · injection h with h; omega
  · exact addL_err h
theorem lineU_len (l : List UInt8) : (lineU l).length ≤ l.length := by
  unfold lineU
  refine Nat.le_trans (trimL_len _) ?_
  rw [List.length_take]; omega
def NewEnd (r : Except (Int × Nat) DbP) (e : Ending) (w' : World) : Prop :=
  match r with
  | .error x => e = .returned (.tuple #[.pointer none, .int .i64 x.1, .int .i64 (x.2 : Int)])
  | .ok d => ∃ p, e = .returned (.tuple #[.pointer (some ⟨p, 0, none⟩), .int .i64 0, .int .i64 0]) ∧ DbAt w' p d
theorem NewEnd.err {r : Except (Int × Nat) DbP} {k : Int} {i : Nat} {w' : World} (h : r = .error (k, i)) : NewEnd r (.returned (.tuple #[.pointer none, .int .i64 k, .int .i64 (i : Int)])) w' := by rw [h]; exact rfl
theorem NewEnd.fine {r : Except (Int × Nat) DbP} {d : DbP} {p : Nat} {w' : World} (h : r = .ok d) (hd : DbAt w' p d) : NewEnd r (.returned (.tuple #[.pointer (some ⟨p, 0, none⟩), .int .i64 0, .int .i64 0])) w' := by rw [h]; exact ⟨p, rfl, hd⟩
theorem own_one {w : World} {t : TypeId} {u : Value} {base : Nat} (hb : base ≤ w.heap.size) : Own (w.alloc (.cells #[u] t)) base t 1 (some ⟨w.heap.size, 0, none⟩) 1 1 [[u]] :=
  ⟨rfl, by simp, by simp, .inr ⟨w.heap.size, 1, #[u], rfl, hb, heap_alloc_new _ _, Nat.le_refl _, by unfold maxLen; omega, rfl, by simp⟩⟩
theorem dbX_first {w w2 : World} {D : DataW Unit} (hD : D = (DataW.map []).put (.string otherL) (.lit (.int .i64 0)))
    (hown : w2.ownsMap Tryz.prog 9 (plainElem (H := Unit) Tryz.prog 3) (w.heap.size + 1) 1 D) (hg : ((w.alloc (.cells #[.string (bytesOf otherL)] 9)).alloc (.map #[] 0)).grownBy w2 (some (w.heap.size + 1))) :
    DbX ((w2.alloc (.cells #[.slice none 0 0] 74)).alloc (.cells #[.slice (some ⟨w.heap.size, 0, none⟩) 1 1, .map (some (w.heap.size + 1)), .slice (some ⟨w2.heap.size, 0, none⟩) 1 1, .slice none 0 0] 106)) w.heap.size (w2.heap.size + 1) (w2.heap.size + 2)
      (some ⟨w.heap.size, 0, none⟩) 1 1 (w.heap.size + 1) 1 D (some ⟨w2.heap.size, 0, none⟩) 1 1 [(none, 0, 0)] [otherL] [[]] ∧
    Below w.heap.size w ((w2.alloc (.cells #[.slice none 0 0] 74)).alloc (.cells #[.slice (some ⟨w.heap.size, 0, none⟩) 1 1, .map (some (w.heap.size + 1)), .slice (some ⟨w2.heap.size, 0, none⟩) 1 1, .slice none 0 0] 106)) := by
  have hs2 := hg.size
  simp at hs2
  have n1 : Own (w.alloc (.cells #[.string (bytesOf otherL)] 9)) w.heap.size 9 1 (some ⟨w.heap.size, 0, none⟩) 1 1 ([otherL].map encNm) := own_one (Nat.le_refl _)
  have n2 := ((n1.alloc (.map #[] 0)).grown hg (fun a ha e => by injection ha with ha; subst ha; injection e with e; simp only at e; omega))
  have s3 : Own (w2.alloc (.cells #[.slice none 0 0] 74)) w.heap.size 74 1 (some ⟨w2.heap.size, 0, none⟩) 1 1 ([((none : Option Addr), 0, 0)].map encSl) := own_one (by omega)
  refine ⟨⟨?_, by omega, (n2.alloc _).alloc _, (hown.alloc _).alloc _, Nat.le_refl _, by omega, ?_, s3.alloc _, ⟨rfl, ?_⟩, by omega, by omega, fun a ha => by injection ha with ha; subst ha; show w.heap.size ≠ w2.heap.size + 2; omega, fun a ha => by injection ha with ha; subst ha; show w2.heap.size ≠ w2.heap.size + 2; omega⟩, ?_⟩
  · have := Blk.new (w2.alloc (.cells #[.slice none 0 0] 74)) 106 #[.slice (some ⟨w.heap.size, 0, none⟩) 1 1, .map (some (w.heap.size + 1)), .slice (some ⟨w2.heap.size, 0, none⟩) 1 1, .slice none 0 0]
    simpa using this
  · rw [hD]; exact MapIs.nil_.put otherL rfl
  · intro k x l hx hl
    match k, hx, hl with
    | 0, hx, hl => simp at hx hl; subst hx; subst hl; exact Own.nil_ _ _ _ _
    | k + 1, hx, hl => simp at hx
  · have h1 : Below w.heap.size w ((w.alloc (.cells #[.string (bytesOf otherL)] 9)).alloc (.map #[] 0)) := ((Below.refl _ _).alloc (Nat.le_refl _) _).alloc (by simp) _
    have h2 := h1.grown hg (by simp; omega) (fun k hk => by injection hk with hk; omega)
    exact (h2.alloc (by omega) _).alloc (by simp; omega) _
set_option maxRecDepth 100000 in
set_option maxHeartbeats 8000000 in
theorem wNew_any (t : List UInt8) (w : World) (hE : Env w) (ht : t.length ≤ maxLen) :
    Calls Tryz.prog 87 #[.string (bytesOf t)] w fun e w' => NewEnd (newP t) e w' ∧ Below w.heap.size w w' := by
  have hsz : (bytesOf t).size = t.length := bytesOf_size t
  have hmm := @run_makeMap Tryz.prog
  unfold maxLen at ht
  by_cases hl : 65536 < t.length
  · have HE := Lib.hid (newP_long hl)
    go_enter Tryz.func87, Tryz.ntmps87
    go_wp2
    go_ret3
    exact ⟨NewEnd.err HE.out, Below.refl _ _⟩
  · have HG := Lib.hid (newP_go hl)
    obtain ⟨m, hm⟩ := hE.max
    have Hm := Lib.hid hm
    clear hm
    go_enter Tryz.func87, Tryz.ntmps87
    have hkey : keyOf Tryz.prog 9 (.string ⟨#[79, 116, 104, 101, 114]⟩) = some (.string otherL) := keyS (n := otherL) (by decide)
    have ho0 := World.ownsMap_made (H := Unit) (w.alloc (.cells #[.string (bytesOf otherL)] 9)) Tryz.prog 9 (plainElem (H := Unit) Tryz.prog 3)
    rw [show (w.alloc (.cells #[.string (bytesOf otherL)] 9)).heap.size = w.heap.size + 1 by simp] at ho0
    go_wp2_with ((refine wpList_insert_own _ rfl _ _ _ 104 rfl 9 3 keyedS Tryz.underlying104 _ (w.heap.size + 1) 0 (.map []) rfl ho0 (by unfold maxLen; omega) _ _ (.string otherL) rfl rfl hkey _ [] (plainElem_int Tryz.underlying3 (WalkArith.wf_i64 (by omega))) ?_; intro w2 hown2 hg2))
    have hF := dbX_first rfl hown2 hg2
    have hg2s := hg2.size
    obtain ⟨hX, hB0⟩ := hF
    have hsx : w2.heap.size + 2 = (((w2.alloc (.cells #[.slice none 0 0] 74)).alloc (.cells #[.slice (some ⟨w.heap.size, 0, none⟩) 1 1, .map (some (w.heap.size + 1)), .slice (some ⟨w2.heap.size, 0, none⟩) 1 1, .slice none 0 0] 106))).heap.size := by simp
    generalize ((w2.alloc (.cells #[.slice none 0 0] 74)).alloc (.cells #[.slice (some ⟨w.heap.size, 0, none⟩) 1 1, .map (some (w.heap.size + 1)), .slice (some ⟨w2.heap.size, 0, none⟩) 1 1, .slice none 0 0] 106)) = w3 at hX hB0 hsx ⊢
    rw [hsx] at hX
    have HS := Lib.hid (Tryz.strings_Split (bytesOf t) ⟨#[10]⟩ m w3 (by omega) (cell_keep Hm.out hB0) (show 1 ≤ 1 by omega))
    obtain ⟨L, HL⟩ : ∃ L, Hid (splitL t = L) := ⟨_, rfl⟩
    have hsp := split_lines (bytesOf t)
    have hc0 := Lib.splitB_all ⟨#[10]⟩ (show 1 ≤ 1 by omega) 0 _ (bytesOf t) rfl
    rw [bytesOf_list, HL.out, show bytesOf [10] = ⟨#[10]⟩ from rfl] at hsp
    generalize Lib.splitB ⟨#[10]⟩ 0 (Lib.countB (bytesOf t) ⟨#[10]⟩) (bytesOf t) = SP at HS hsp hc0
    have hcount : Lib.countB (bytesOf t) ⟨#[10]⟩ + 1 = L.length := by rw [← hc0, ← hsp, List.length_map]
    rw [hcount] at HS
    have HLl := Lib.hid (fun i l (h : L[i]? = some l) => line_len (t := t) (i := i) (l := l) (by rw [HL.out]; exact h))
    have HLn : Hid (L.length ≤ 65537) := Lib.hid (by rw [← HL.out, splitL_count]; have := List.count_le_length (a := (10 : UInt8)) (l := t); omega)
    have HSP : Hid (∀ i l, L[i]? = some l → SP[i]? = some (bytesOf l)) := Lib.hid (fun i l h => by
      rw [← hsp, List.getElem?_map] at h
      cases hq : SP[i]? with
      | none => rw [hq] at h; cases h
      | some s => rw [hq] at h; simp at h; rw [← h, bytesOf_data])
    have HNP : Hid (newP t = linesGo DbP.first L 0) := Lib.hid (by rw [HG.out, HL.out])
    have hX4 := hX.below ((Below.refl _ _).alloc (Nat.le_refl _) (.cells (SP.map Value.string).toArray 9))
    have hB4 : Below w.heap.size w (w3.alloc (.cells (SP.map Value.string).toArray 9)) := hB0.alloc (by have := hB0.size; omega) _
    have hb4 := Blk.new w3 9 (SP.map Value.string).toArray
    have hx4 : w3.heap.size < (w3.alloc (.cells (SP.map Value.string).toArray 9)).heap.size := by simp
    refine HS.out.mono ?_
    rintro e w4 ⟨rfl, rfl⟩
    clear hX hB0 HS HG HL hc0 hsp hcount Hm hown2 hg2 hg2s hsx ho0 hmm hkey
    generalize w3.alloc (.cells (SP.map Value.string).toArray 9) = w4 at hX4 hB4 hb4 hx4 ⊢
    generalize w3.heap.size = x at hX4 hb4 hx4 ⊢
    generalize w2.heap.size + 1 = p at hX4 ⊢
    have hsw := hB4.size
    have HCell : Hid (∀ i l, L[i]? = some l → w4.cell? ⟨x, i, none⟩ = some (.string (bytesOf l))) := Lib.hid (fun i l h => by
      rw [hb4.cell i]; have := HSP.out i l h; simp [this])
    clear hb4 HSP
    go_wp2_with fail
    go_loopw [21] (fun v wr => ∃ (i : Nat) (d : DbP), v = .int .i64 i ∧ i ≤ L.length ∧ DbB wr w.heap.size p x d ∧ wr.heap[x]? = w4.heap[x]? ∧ Hid (NewAt L i d) ∧ Below w.heap.size w wr ∧ x < wr.heap.size) (fun v _ => L.length - (intOf v).toNat)
    case atStart => exact ⟨0, DbP.first, rfl, by omega, ⟨_, _, _, _, _, _, _, _, _, _, hX4⟩, rfl, newAt_first L, hB4, hx4⟩
    case round =>
      clear hX4
      obtain ⟨i, d, rfl, hi, hd, hxr, HN, hb, hxl⟩ := hrel
      have hszr := hb.size
      by_cases hlt : i < L.length
      · obtain ⟨l, Hl⟩ : ∃ l, Hid (L[i]? = some l) := ⟨_, Lib.hid (List.getElem?_eq_getElem hlt)⟩
        have hcell : wr.cell? ⟨x, i, none⟩ = some (.string (bytesOf l)) := (World.cell?_of_block hxr).trans (HCell.out i l Hl.out)
        have hll := HLl.out i l Hl.out
        have hlu := lineU_len l
        have HW := Lib.hid (wline_any (bytesOf l) wr (hE.tabs.below (hb.mono (Nat.le_refl _))) (by rw [bytesOf_size]; omega))
        rw [bytesOf_list] at HW
        have HN2 := HLn.out
        by_cases hu : lineU l = []
        · have hem : (bytesOf (lineU l)).toList.isEmpty = true := by rw [ByteArray.toList_eq, bytesOf_list, hu]; rfl
          have HN' := Lib.hid (newAt_next HN.out Hl.out (step_nil hu))
          clear hu
          go_wp2_with (go_at_call 107; refine HW.out.mono ?_; rintro e w5 ⟨rfl, hb5⟩)
          go_roundw
          case rel => exact ⟨i + 1, d, by go_num, by omega, hd.below hb5, (hb5.block x hxl).trans hxr, HN', below_step hb hb5 hszr, Nat.lt_of_lt_of_le hxl hb5.size⟩
          case measure => simp [intOf]; omega
        · have hem : (bytesOf (lineU l)).toList.isEmpty = false := by
            rw [ByteArray.toList_eq, bytesOf_list]
            cases hq : lineU l with
            | nil => exact absurd hq hu
            | cons a b => rfl
          have HST := Lib.hid (step_add (d := d) hu)
          clear hu
          go_wp2_with fail
          refine HW.out.mono ?_
          rintro e w5 ⟨rfl, hb5⟩
          have hb5w := below_step hb hb5 hszr
          have hx5 := Nat.lt_of_lt_of_le hxl hb5.size
          have hxr5 := (hb5.block x hxl).trans hxr
          have HA := Lib.hid (wadd_any p w.heap.size x d (lineU l) w5 (hd.below hb5) HN.out.2.2.1 hx5 hb5w.size (hE.tabs.below hb5w) (hE.max.below hb5w) (by omega))
          go_wp2_with fail
          refine HA.out.mono ?_
          rintro e w6 ⟨hk, hae⟩
          have hb6 := hb5w.trans hk.1
          cases hs : addS d (lineU l) with
          | error k =>
            rw [hs] at hae HST
            have he : e = .returned (.int .i64 k) := hae
            subst he
            have hk0 : ((k : Int) != 0) = true := by rw [bne_iff_ne]; have := addS_err hs; omega
            have HE := Lib.hid (HNP.out.trans (newAt_err HN.out Hl.out HST.out))
            clear hs hae
            go_wp2
            go_ret3
            exact ⟨NewEnd.err HE.out, hb6⟩
          | ok d' =>
            rw [hs] at hae HST
            obtain ⟨rfl, hd'⟩ := hae
            have HN' := Lib.hid (newAt_next HN.out Hl.out HST.out)
            clear hs
            go_wp2
            go_roundw
            case rel => exact ⟨i + 1, d', by go_num, by omega, hd', (hk.2 hx5).trans hxr5, HN', hb6, Nat.lt_of_lt_of_le hx5 hk.1.size⟩
            case measure => simp [intOf]; omega
      · have HE := Lib.hid (HNP.out.trans (newAt_end HN.out hlt))
        have HC := Lib.hid (wclose_any p w.heap.size x d wr hd HN.out.2.2.1 HN.out.2.2.2 hszr)
        go_wp2_with (go_at_call 109; refine HC.out.mono ?_; rintro e w5 ⟨rfl, hda, hb5⟩)
        go_ret3
        exact ⟨NewEnd.fine HE.out hda, hb.trans hb5⟩
end Go.Proofs.YtdnkignhenkamaaGreatDoor

/- -/
namespace Go.Proofs.YtdnkignhenkamaaGreatDoor
open Go.RowKit
end Go.Proofs.YtdnkignhenkamaaGreatDoor

/- -/
namespace Go.Proofs.YtdnkignhenkamaaGreatDoor
open Go.RowKit
theorem Rd.atP' {w : World} {A : Option Addr} {l : List Nat} {k : Nat} {x : Nat} (h : Rd w 1 A (l.map encN)) (hk : l[k]? = some x) : ∃ b off, A = some ⟨b, off, none⟩ ∧ w.cell? ⟨b, off + k, none⟩ = some (.int .i64 (x : Nat)) := by
  obtain ⟨b, off, rfl, hc⟩ := h (by intro e; cases l with | nil => simp at hk | cons _ _ => simp at e)
  have h0 := hc k 0 (encN x) (.int .i64 (x : Nat)) (by simp [hk]) rfl
  exact ⟨b, off, rfl, by simpa using h0⟩
end Go.Proofs.YtdnkignhenkamaaGreatDoor

/- -/
namespace Go.Proofs.YtdnkignhenkamaaGreatDoor
open Go.RowKit
theorem search_own {w : World} {base : Nat} {A : Option Addr} {n c : Nat} {L : List Nat} (x : Int) (ho : Own w base 3 1 A n c (L.map encN)) (hr : L.Pairwise (· < ·)) (hz : n ≤ 4000000) :
    Calls Tryz.prog 70 #[.slice A n c, .int .i64 x] w fun e w' => (∃ k : Int, e = .returned (.tuple #[.int .i64 k, .bool ((L.map fun (a : Nat) => (a : Int)).contains x)])) ∧ Below w.heap.size w w' := by
  have hn : L.length = n := by have := ho.len; simpa using this
  have rd := ho.rd (by decide)
  cases L with
  | nil =>
    obtain rfl : 0 = n := hn
    refine (Tryz.slices_BinarySearch_int_empty A c x w).mono ?_
    rintro e w' ⟨rfl, rfl⟩
    exact ⟨⟨0, rfl⟩, Below.refl _ _⟩
  | cons a r =>
    obtain ⟨b, off, rfl, hc⟩ := rd (by simp)
    refine (Tryz.slices_BinarySearch_int b off n c ((a :: r).map fun (a : Nat) => (a : Int)) x w (by simp at hn ⊢; omega) (by omega) (fun j hj => ?_) ?_).mono ?_
    · rw [List.length_map] at hj
      have hx := List.getElem?_eq_getElem hj
      have := hc j 0 (encN (a :: r)[j]) (.int .i64 ((a :: r)[j] : Nat)) (by rw [List.getElem?_map, hx]; rfl) rfl
      rw [List.getD_eq_getElem?_getD, List.getElem?_map, hx]
      simpa using this
    · refine List.Pairwise.sublist (List.take_sublist _ _) ?_
      rw [List.pairwise_map]
      exact hr.imp fun h => by omega
    · rintro e w' ⟨rfl, q, rfl⟩
      rw [List.take_of_length_le (by rw [List.length_map]; omega)]
      exact ⟨⟨_, rfl⟩, below_refl_drewN w q⟩
end Go.Proofs.YtdnkignhenkamaaGreatDoor

/- -/
namespace Go.Proofs.YtdnkignhenkamaaGreatDoor
open Go.RowKit Go.Shelf
attribute [local go_sem] Oper.semAt_some
def encP2 (x : Nat × Nat) : Array Value := #[.int .i64 (x.1 : Nat), .int .i64 (x.2 : Nat)]
def encCl (s : ByteArray) (x : Nat × Nat) : Array Value := encP2 (clP s x)
end Go.Proofs.YtdnkignhenkamaaGreatDoor

/- -/
namespace Go.Proofs.YtdnkignhenkamaaGreatDoor
open Go.RowKit
def edgeT (s : ByteArray) (z b : Nat) : Bool := !(decide (b ≤ z) && decide (b < (Utf8.decode s (z - b)).2))
def edgeK (s : ByteArray) (z : Nat) : Nat → Nat → Bool
  | _, 0 => true
  | b, k + 1 => edgeT s z b && edgeK s z (b + 1) k
theorem edgeB_K (s : ByteArray) (z : Nat) : edgeB s z = edgeK s z 1 3 := by simp [edgeB, edgeK, edgeT]
theorem edgeK_far {s : ByteArray} {z : Nat} : ∀ (k b : Nat), z < b → edgeK s z b k = true
  | 0, _, _ => rfl
  | k + 1, b, h => by
    unfold edgeK
    rw [edgeK_far k (b + 1) (by omega)]
    unfold edgeT
    simp [show ¬ b ≤ z by omega]
set_option maxRecDepth 100000 in
set_option maxHeartbeats 2000000 in
theorem uIs_any (s : ByteArray) (z : Nat) (w : World) (hT : Tabs w) (hz : z ≤ s.size) (hs : s.size ≤ 1000000) :
    Calls Tryz.prog 38 #[.string s, .int .i64 (z : Nat)] w fun e w' => e = .returned (.bool (edgeB s z)) ∧ Below w.heap.size w w' := by
  have h1 : ((z : Int) < 0) = False := eq_false (by omega)
  have h2 : ((z : Int) > (s.size : Int)) = False := eq_false (by omega)
  go_enter Tryz.func38, Tryz.ntmps38
  go_wp2_with fail
  clear h1 h2
  go_loopw [5] (fun v wr => ∃ b k : Nat, v = .int .i64 b ∧ b + k = 4 ∧ 1 ≤ b ∧ Hid (edgeB s z = edgeK s z b k) ∧ Below w.heap.size w wr) (fun v _ => 4 - (intOf v).toNat)
  case atStart => exact ⟨1, 3, rfl, rfl, by omega, Lib.hid (edgeB_K s z), Below.refl _ _⟩
  case round =>
    obtain ⟨b, k, rfl, hbk, hb1, HK, hbw⟩ := hrel
    cases k with
    | zero =>
      obtain rfl : b = 4 := by omega
      have HV : Hid (edgeB s z = true) := Lib.hid HK.out
      go_wp2
      go_ret
      exact ⟨by rw [HV.out]; rfl, hbw⟩
    | succ k =>
      have hb4 : b < 4 := by omega
      by_cases hbz : b ≤ z
      · obtain ⟨y, hyb⟩ : ∃ y, y + b = z := ⟨z - b, by omega⟩
        have e1 : (z : Int) - (b : Int) = (y : Int) := by omega
        have Hyb : Hid (z - b = y) := Lib.hid (by omega)
        have hy0 : (0 : Int) ≤ (y : Int) := by omega
        have hys : (y : Int) ≤ (s.size : Int) := by omega
        have HD := Lib.hid (lDecode_any s y _ (hT.below hbw) (by omega))
        obtain ⟨⟨R, W⟩, hD⟩ : ∃ d, Utf8.decode s y = d := ⟨_, rfl⟩
        have hrA : runeAt s y = (R, W) := by unfold runeAt; rw [if_pos (by omega)]; exact hD
        have hbd := dec_bd s y (by omega)
        rw [hD] at hbd
        simp only at hbd
        rw [hrA] at HD
        have HK2 := HK.out
        unfold edgeK edgeT at HK2
        rw [Hyb.out, hD] at HK2
        simp only at HK2
        have HK3 := Lib.hid HK2
        clear HK HK2 hD hrA hyb
        go_wp2_with fail
        refine HD.out.mono ?_
        rintro e w2 ⟨rfl, hb2⟩
        by_cases hw : b < W
        · have HV : Hid (edgeB s z = false) := Lib.hid (by rw [HK3.out]; simp [hw, hbz])
          obtain ⟨q, hq⟩ : ∃ q, ((R : Int) == 65533) = q := ⟨_, rfl⟩
          have hw1 : ((W : Int) == 1) = false := by simp; omega
          cases q with
          | true =>
            go_wp2
            go_ret
            exact ⟨by rw [HV.out]; rfl, below_two hbw hb2⟩
          | false =>
            go_wp2
            go_ret
            exact ⟨by rw [HV.out]; rfl, below_two hbw hb2⟩
        · have HV : Hid (edgeB s z = edgeK s z (b + 1) k) := Lib.hid (by rw [HK3.out]; simp [hw, hbz])
          go_wp2
          go_roundw
          case rel => exact ⟨b + 1, k, by go_num, by omega, by omega, HV, below_two hbw hb2⟩
          case measure => simp [intOf]; omega
      · have HV : Hid (edgeB s z = true) := Lib.hid (by rw [HK.out]; exact edgeK_far _ _ (by omega))
        go_wp2
        go_ret
        exact ⟨by rw [HV.out]; rfl, hbw⟩
set_option maxRecDepth 100000 in
set_option maxHeartbeats 2000000 in
theorem zPlaces_same (A B : Option Addr) (n c e : Nat) (l : List Nat) (w : World) (hA : Rd w 1 A (l.map encN)) (hB : Rd w 1 B (l.map encN)) (hl : l.length = n) (hn : n ≤ 4000000) :
    Calls Tryz.prog 16 #[.slice A n c, .slice B n e] w fun e w' => e = .returned (.bool true) ∧ Below w.heap.size w w' := by
  have Hl := Lib.hid hl
  clear hl
  go_enter Tryz.func16, Tryz.ntmps16
  go_wp2
  go_loopw [5] (fun v wr => ∃ i k : Nat, v = .int .i64 i ∧ i ≤ n ∧ wr = w.drewN k) (fun v _ => n - (intOf v).toNat)
  case atStart => exact ⟨0, 0, rfl, by omega, rfl⟩
  case round =>
    obtain ⟨i, k, rfl, hi, rfl⟩ := hrel
    by_cases hlt : i < n
    · obtain ⟨x, Hx⟩ : ∃ x, Hid (l[i]? = some x) := ⟨_, Lib.hid (List.getElem?_eq_getElem (by have := Hl.out; omega))⟩
      obtain ⟨b, off, rfl, h1⟩ := hA.atP' Hx.out
      obtain ⟨b', off', rfl, k1⟩ := hB.atP' Hx.out
      go_wp2_with fail
      go_region
      go_wp2
      go_roundw
      case rel => exact ⟨i + 1, _, by go_num, by omega, by first | rfl | exact World.drewN_drewN _ _ _⟩
      case measure => simp [intOf]; omega
    · go_wp2
      go_ret
      exact ⟨rfl, below_refl_drewN w k⟩
end Go.Proofs.YtdnkignhenkamaaGreatDoor

/- -/
namespace Go.Proofs.YtdnkignhenkamaaGreatDoor
open Go.RowKit Go.Shelf
attribute [local go_sem] Oper.semAt_some
def belowL (L : List Nat) (x : Int) : Nat := L.foldl (fun (b a : Nat) => if (a : Int) < x then a else b) 0
def aboveL (L : List Nat) (x : Int) (e : Nat) : Nat := (L.find? fun (a : Nat) => decide (x < (a : Int))).getD e
def arT (x : Int) (p : Nat × Nat) : Bool := decide ((p.1 : Int) ≤ x) && decide (x < (p.2 : Int))
def aroundL (L : List Nat) (x : Int) : Nat × Nat := ((piecesF L).find? (arT x)).getD (0, 0)
theorem belowL_step {L : List Nat} {x : Int} {i y : Nat} (h : L[i]? = some y) : belowL (L.take (i + 1)) x = if (y : Int) < x then y else belowL (L.take i) x := by
  unfold belowL
  rw [List.take_add_one, h, Option.toList_some, List.foldl_append, List.foldl_cons, List.foldl_nil]
set_option maxRecDepth 100000 in
set_option maxHeartbeats 2000000 in
theorem bAbove_any (A : Option Addr) (n c : Nat) (L : List Nat) (x : Int) (e : Nat) (w : World) (hA : Rd w 1 A (L.map encN)) (hl : L.length = n) (hn : n ≤ 4000000) :
    Calls Tryz.prog 33 #[.slice A n c, .int .i64 x, .int .i64 (e : Nat)] w fun e' w' => e' = .returned (.int .i64 (aboveL L x e : Nat)) ∧ w = w' := by
  have Hn := Lib.hid hl
  clear hl
  go_enter Tryz.func33, Tryz.ntmps33
  go_wp2_with fail
  go_loopw [7] (fun v wr => ∃ i : Nat, v = .int .i64 i ∧ i ≤ n ∧ wr = w ∧ Hid (aboveL L x e = ((L.drop i).find? fun (a : Nat) => decide (x < (a : Int))).getD e)) (fun v _ => n - (intOf v).toNat)
  case atStart => exact ⟨0, rfl, by omega, rfl, Lib.hid rfl⟩
  case round =>
    obtain ⟨i, rfl, hi, rfl, HN⟩ := hrel
    by_cases hlt : i < n
    · obtain ⟨y, Hy⟩ : ∃ y, Hid (L[i]? = some y) := ⟨_, Lib.hid (List.getElem?_eq_getElem (by have := Hn.out; omega))⟩
      obtain ⟨b, off, rfl, cy⟩ := hA.atP' Hy.out
      have hdr : L.drop i = y :: L.drop (i + 1) := by rw [List.drop_eq_getElem_cons (by have := Hn.out; omega)]; rw [(List.getElem?_eq_some_iff.1 Hy.out).2]
      have HN2 := HN.out
      rw [hdr, List.find?_cons] at HN2
      clear hdr HN
      cases hq : decide (x < (y : Int)) with
      | true =>
        rw [hq] at HN2
        have HN3 : Hid (aboveL L x e = y) := Lib.hid HN2
        have hq2 : ((y : Int) > x) = True := eq_true (of_decide_eq_true hq)
        clear HN2
        go_wp2
        go_ret
        exact ⟨by rw [HN3.out]; rfl, rfl⟩
      | false =>
        rw [hq] at HN2
        have HN3 := Lib.hid HN2
        clear HN2
        go_wp2
        go_roundw
        case rel => exact ⟨i + 1, by go_num, by omega, by first | rfl | trivial, HN3⟩
        case measure => simp [intOf]; omega
    · obtain rfl : i = n := by omega
      have HN2 : Hid (aboveL L x e = e) := Lib.hid (by rw [HN.out, List.drop_eq_nil_of_le (by have := Hn.out; omega)]; rfl)
      go_wp2
      go_ret
      exact ⟨by rw [HN2.out]; rfl, rfl⟩
set_option maxRecDepth 100000 in
set_option maxHeartbeats 2000000 in
theorem bBelow_any (A : Option Addr) (n c : Nat) (L : List Nat) (x : Int) (w : World) (hA : Rd w 1 A (L.map encN)) (hl : L.length = n) (hn : n ≤ 4000000) :
    Calls Tryz.prog 35 #[.slice A n c, .int .i64 x] w fun e' w' => e' = .returned (.int .i64 (belowL L x : Nat)) ∧ w = w' := by
  have Hn := Lib.hid hl
  clear hl
  go_enter Tryz.func35, Tryz.ntmps35
  go_wp2_with fail
  go_loopw [5, 6] (fun u v wr => ∃ i k : Nat, v = .int .i64 i ∧ u = .int .i64 k ∧ i ≤ n ∧ wr = w ∧ Hid (belowL (L.take i) x = k)) (fun _ v _ => n - (intOf v).toNat)
  case atStart => exact ⟨0, 0, rfl, rfl, by omega, rfl, Lib.hid rfl⟩
  case round =>
    obtain ⟨i, k, rfl, rfl, hi, rfl, HN⟩ := hrel
    by_cases hlt : i < n
    · obtain ⟨y, Hy⟩ : ∃ y, Hid (L[i]? = some y) := ⟨_, Lib.hid (List.getElem?_eq_getElem (by have := Hn.out; omega))⟩
      obtain ⟨b, off, rfl, cy⟩ := hA.atP' Hy.out
      have HN2 := belowL_step (x := x) Hy.out
      by_cases hq : (y : Int) < x
      · rw [if_pos hq] at HN2
        have HN3 := Lib.hid HN2
        clear HN2
        go_wp2
        go_roundw
        case rel => exact ⟨i + 1, y, by go_num, rfl, by omega, by first | rfl | trivial, HN3⟩
        case measure => simp [intOf]; omega
      · rw [if_neg hq, HN.out] at HN2
        have HN3 := Lib.hid HN2
        clear HN2
        go_wp2
        go_roundw
        case rel => exact ⟨i + 1, k, by go_num, rfl, by omega, by first | rfl | trivial, HN3⟩
        case measure => simp [intOf]; omega
    · obtain rfl : i = n := by omega
      have HN2 : Hid (belowL L x = k) := Lib.hid (by rw [← HN.out, List.take_of_length_le (by have := Hn.out; omega)])
      go_wp2
      go_ret
      exact ⟨by rw [HN2.out]; rfl, rfl⟩
set_option maxRecDepth 100000 in
set_option maxHeartbeats 4000000 in
theorem bAround_any (A : Option Addr) (n c : Nat) (L : List Nat) (x : Int) (w : World) (hA : Rd w 1 A (L.map encN)) (hl : L.length = n) (hn : n ≤ 4000000) :
    Calls Tryz.prog 30 #[.slice A n c, .int .i64 x] w fun e' w' => e' = .returned (.tuple #[.int .i64 ((aroundL L x).1 : Nat), .int .i64 ((aroundL L x).2 : Nat)]) ∧ Below w.heap.size w w' := by
  have Hn := Lib.hid hl
  have HF := Lib.hid (fun i x y (h1 : L[i]? = some x) (h2 : L[i + 1]? = some y) => piecesF_at L i x y h1 h2)
  have HFl := Lib.hid (piecesF_len L)
  clear hl
  go_enter Tryz.func30, Tryz.ntmps30
  go_wp2_with fail
  go_loopw [6] (fun v wr => ∃ i : Nat, v = .int .i64 i ∧ (i = 0 ∨ i < n) ∧ wr = w ∧ Hid (aroundL L x = (((piecesF L).drop i).find? (arT x)).getD (0, 0))) (fun v _ => n - (intOf v).toNat)
  case atStart => exact ⟨0, rfl, .inl rfl, rfl, Lib.hid rfl⟩
  case round =>
    obtain ⟨i, rfl, hi, rfl, HN⟩ := hrel
    by_cases hlt : i + 1 < n
    · obtain ⟨y, Hy⟩ : ∃ y, Hid (L[i]? = some y) := ⟨_, Lib.hid (List.getElem?_eq_getElem (by have := Hn.out; omega))⟩
      obtain ⟨z, Hz⟩ : ∃ y, Hid (L[i + 1]? = some y) := ⟨_, Lib.hid (List.getElem?_eq_getElem (by have := Hn.out; omega))⟩
      obtain ⟨j, hj⟩ : ∃ j, i + 1 = j := ⟨_, rfl⟩
      obtain ⟨b, off, rfl, cy⟩ := hA.atP' Hy.out
      obtain ⟨b2, off2, e2, cz⟩ := hA.atP' Hz.out
      injection e2 with e2
      injection e2 with e3 e4 _
      subst e3 e4
      have hat := HF.out i y z Hy.out Hz.out
      have hdr : (piecesF L).drop i = (y, z) :: (piecesF L).drop (i + 1) := by
        obtain ⟨h1, h2⟩ := List.getElem?_eq_some_iff.1 hat
        rw [List.drop_eq_getElem_cons h1, h2]
      have HN2 := HN.out
      rw [hdr, List.find?_cons] at HN2
      rw [hj] at cz HN2 hlt
      have ej : (i : Int) + 1 = (j : Int) := by omega
      have HJ := Lib.hid hj
      clear hdr HN hat hj
      have hin : i < n := by omega
      have hq0 : arT x (y, z) = (decide ((y : Int) ≤ x) && decide (x < (z : Int))) := rfl
      cases hq : decide ((y : Int) ≤ x) with
      | true =>
        cases hr : decide (x < (z : Int)) with
        | true =>
          rw [hq0, hq, hr] at HN2
          have HN3 : Hid (aroundL L x = (y, z)) := Lib.hid HN2
          have hq2 := of_decide_eq_true hq
          have hr2 := of_decide_eq_true hr
          clear HN2 hq0
          go_wp2_with fail
          go_region
          go_wp2
          go_ret2
          exact ⟨by rw [HN3.out]; rfl, (Below.refl _ _).drew⟩
        | false =>
          rw [hq0, hq, hr] at HN2
          have HN3 := Lib.hid HN2
          have hq2 := of_decide_eq_true hq
          have hr2 : ¬ (x < (z : Int)) := of_decide_eq_false hr
          clear HN2 hq0
          go_wp2
          go_roundw
          case rel => exact ⟨j, by first | rfl | (go_num), .inr (by omega), by first | rfl | trivial, HN3⟩
          case measure => simp [intOf]; omega
      | false =>
        rw [hq0, hq] at HN2
        have HN3 := Lib.hid HN2
        have hq2 : ¬ ((y : Int) ≤ x) := of_decide_eq_false hq
        clear HN2 hq0
        go_wp2
        go_roundw
        case rel => exact ⟨j, by first | rfl | (go_num), .inr (by omega), by first | rfl | trivial, HN3⟩
        case measure => simp [intOf]; omega
    · have HN2 : Hid (aroundL L x = (0, 0)) := Lib.hid (by rw [HN.out, List.drop_eq_nil_of_le (by rw [HFl.out]; have := Hn.out; omega)]; rfl)
      go_wp2
      go_ret2
      exact ⟨by rw [HN2.out]; rfl, Below.refl _ _⟩
end Go.Proofs.YtdnkignhenkamaaGreatDoor

/- -/
namespace Go.Proofs.YtdnkignhenkamaaGreatDoor
open Go.RowKit Go.Shelf
attribute [local go_sem] Oper.semAt_some
theorem blk_farG {V : World} {p : Addr} {u : Value} {k : Nat} {t : TypeId} {cs : Array Value} (h : Blk V k t cs) (hne : k ≠ p.block) : Blk (V.setCell p u) k t cs := (Below.heap_setCell V p u k hne).trans h
theorem blk_putG {V : World} {D : Nat} {o : Obj} {k : Nat} {t : TypeId} {cs : Array Value} (h : Blk V k t cs) (hne : k ≠ D) : Blk (V.putObj D o) k t cs := (World.putObj_heap_other hne).trans h
theorem find_prefixG {α : Type} {P : α → Bool} : ∀ {pre L : List α} {q : α}, pre ++ [q] <+: L → (∀ p ∈ pre, P p = false) → P q = true → L.find? P = some q
  | [], L, q, ⟨t, h⟩, _, hq => by rw [← h]; simp [hq]
  | a :: r, L, q, ⟨t, h⟩, hp, hq => by
    rw [← h, List.cons_append, List.cons_append, List.find?_cons, hp a (by simp)]
    exact find_prefixG ⟨t, rfl⟩ (fun p hp' => hp p (by simp [hp'])) hq
end Go.Proofs.YtdnkignhenkamaaGreatDoor

/- -/
namespace Go.Proofs.YtdnkignhenkamaaGreatDoor
open Go.RowKit
set_option maxRecDepth 100000 in
set_option maxHeartbeats 4000000 in
theorem ndb_any (w : World) (hE : Env w) :
    Calls Tryz.prog 77 #[] w fun e w' => ∃ p, e = .returned (.pointer (some ⟨p, 0, none⟩)) ∧ DbAt w' p sentsD ∧ Below w.heap.size w w' := by
  go_enter Tryz.func77, Tryz.ntmps77
  generalize hT : ByteArray.mk _ = T
  have HN : newP T.data.toList = .ok sentsD := by rw [← hT]; exact new_K (by kernel_rfl) (by kernel_rfl)
  have hTl : T.data.toList.length ≤ maxLen := by rw [← hT]; exact of_decide_eq_true (by kernel_rfl)
  clear hT
  have HC := wNew_any T.data.toList w hE hTl
  rw [HN, show bytesOf T.data.toList = T from bytesOf_data T] at HC
  replace HC := Lib.hid HC
  clear HN hTl
  go_wp2_with fail
  refine HC.out.mono ?_
  rintro e w1 ⟨⟨p, rfl, hd⟩, hb1⟩
  go_wp2
  go_ret
  exact ⟨p, rfl, hd, hb1⟩
theorem sOver_step (L : List Nat) (a b : Int) {j y : Nat} (h : L[j]? = some y) : sOver (toI L) a b (j + 1) = if (y : Int) = a ∨ (y : Int) = b then sOver (toI L) a b j else j + 1 := by
  have e : sOver (toI L) a b (j + 1) = if (toI L).getD j 0 = a ∨ (toI L).getD j 0 = b then sOver (toI L) a b j else j + 1 := rfl
  rw [e, toI_get, List.getD_eq_getElem?_getD, h]; rfl
theorem toI_at {L : List Nat} {j y : Nat} (h : L[j]? = some y) : (toI L).getD j 0 = (y : Int) := by rw [toI_get, List.getD_eq_getElem?_getD, h]; rfl
set_option maxRecDepth 100000 in
set_option maxHeartbeats 2000000 in
theorem nover_any (A : Option Addr) (n c : Nat) (L : List Nat) (m : Nat) (a b : Int) (w : World) (hA : Rd w 1 A (L.map encN)) (hl : L.length = n) (hm : m ≤ n) (hn : n ≤ 4000000) :
    Calls Tryz.prog 101 #[.slice A n c, .int .i64 (m : Nat), .int .i64 a, .int .i64 b] w fun e w' => e = .returned (.int .i64 (sOver (toI L) a b m : Nat)) ∧ w = w' := by
  have Hn := Lib.hid hl
  have HS := Lib.hid (fun j y (h : L[j]? = some y) => sOver_step L a b h)
  clear hl
  go_enter Tryz.func101, Tryz.ntmps101
  go_wp2_with fail
  go_loopw [1] (fun v wr => ∃ k : Nat, v = .int .i64 k ∧ k ≤ m ∧ wr = w ∧ Hid (sOver (toI L) a b m = sOver (toI L) a b k)) (fun v _ => (intOf v).toNat)
  case atStart => exact ⟨m, rfl, Nat.le_refl _, rfl, Lib.hid rfl⟩
  case round =>
    obtain ⟨k, rfl, hk, rfl, HN⟩ := hrel
    cases k with
    | zero =>
      have HV : Hid (sOver (toI L) a b m = 0) := Lib.hid (by rw [HN.out]; rfl)
      go_wp2
      go_ret
      exact ⟨by rw [HV.out]; rfl, rfl⟩
    | succ j =>
      obtain ⟨y, Hy⟩ : ∃ y, Hid (L[j]? = some y) := ⟨_, Lib.hid (List.getElem?_eq_getElem (by have := Hn.out; omega))⟩
      obtain ⟨bk, off, rfl, cy⟩ := hA.atP' Hy.out
      have hs := HS.out j y Hy.out
      obtain ⟨i, hi⟩ : ∃ i, j + 1 = i := ⟨_, rfl⟩
      rw [hi] at hs HN hk
      have e1 : (i : Int) - 1 = (j : Int) := by omega
      have e2 : IntKind.i64.wrap ((i : Int) - 1) = (j : Int) := by rw [e1]; exact IntWalk.i64_in _ (by omega)
      have e3 : IntKind.i64.wrap (j : Int) = (j : Int) := IntWalk.i64_in _ (by omega)
      have hi0 : 0 < i := by omega
      have hi0' : (0 : Int) < (i : Int) := by omega
      have hi0'' : (i : Int) > 0 := by omega
      have hjn : j < n := by omega
      have hj0 : (0 : Int) ≤ (j : Int) := by omega
      have hjn' : (j : Int) < (n : Int) := by omega
      have HI := Lib.hid hi
      rw [hi]
      clear hi
      cases q1 : ((y : Int) == a) with
      | true =>
        rw [if_pos (.inl (by simpa using q1))] at hs
        have HN2 : Hid (sOver (toI L) a b m = sOver (toI L) a b j) := Lib.hid (HN.out.trans hs)
        clear hs
        go_wp2
        go_roundw
        case rel => exact ⟨j, by first | rfl | (rw [e1]) | (have := HI.out; go_num), by omega, by first | rfl | trivial, HN2⟩
        case measure => simp [intOf] <;> omega
      | false =>
        cases q2 : ((y : Int) == b) with
        | true =>
          rw [if_pos (.inr (by simpa using q2))] at hs
          have HN2 : Hid (sOver (toI L) a b m = sOver (toI L) a b j) := Lib.hid (HN.out.trans hs)
          clear hs
          go_wp2
          go_roundw
          case rel => exact ⟨j, by first | rfl | (rw [e1]) | (have := HI.out; go_num), by omega, by first | rfl | trivial, HN2⟩
          case measure => simp [intOf] <;> omega
        | false =>
          rw [if_neg (by rintro (h | h); exact absurd h (by simpa using q1); exact absurd h (by simpa using q2))] at hs
          have HV : Hid (sOver (toI L) a b m = i) := Lib.hid (HN.out.trans hs)
          clear hs
          go_wp2
          go_ret
          exact ⟨by rw [HV.out]; rfl, rfl⟩
theorem sEnded_eq (c : List Int) (m k : Nat) (bl : Bool) (hk : sOver c 11 13 (if bl then sOver c 4 13 m else m) = k) : sEnded c m bl = if k ≠ 0 ∧ sStop (c.getD (k - 1) 0) = true then c.getD (k - 1) 0 else 0 := by
  subst hk; rfl
set_option maxRecDepth 100000 in
set_option maxHeartbeats 2000000 in
theorem nended_any (A : Option Addr) (n c : Nat) (L : List Nat) (m : Nat) (bl : Bool) (w : World) (hA : Rd w 1 A (L.map encN)) (hl : L.length = n) (hm : m ≤ n) (hn : n ≤ 4000000) :
    Calls Tryz.prog 102 #[.slice A n c, .int .i64 (m : Nat), .bool bl] w fun e w' => e = .returned (.int .i64 (sEnded (toI L) m bl)) ∧ w = w' := by
  have HO := Lib.hid (fun m a b (hm : m ≤ n) => nover_any A n c L m a b w hA hl hm hn)
  have Hn := Lib.hid hl
  obtain ⟨k1, hk1⟩ : ∃ k, (if bl then sOver (toI L) 4 13 m else m) = k := ⟨_, rfl⟩
  have hk1m : k1 ≤ m := by rw [← hk1]; split; exact sOver_le _ _ _ _; exact Nat.le_refl _
  obtain ⟨k2, hk2⟩ : ∃ k, sOver (toI L) 11 13 k1 = k := ⟨_, rfl⟩
  have hk2m : k2 ≤ k1 := by rw [← hk2]; exact sOver_le _ _ _ _
  have HE := Lib.hid (sEnded_eq (toI L) m k2 bl (by rw [hk1]; exact hk2))
  have H2 := Lib.hid (HO.out k1 11 13 (by omega))
  rw [hk2] at H2
  clear hk2 hl
  cases bl with
  | true =>
    have H1 := Lib.hid (HO.out m 4 13 hm)
    rw [show sOver (toI L) 4 13 m = k1 from hk1] at H1
    clear hk1 HO
    go_enter Tryz.func102, Tryz.ntmps102
    go_wp2_with fail
    refine H1.out.mono ?_
    rintro e w1 ⟨rfl, rfl⟩
    go_wp2_with fail
    refine H2.out.mono ?_
    rintro e w1 ⟨rfl, rfl⟩
    cases k2 with
    | zero =>
      have HV : Hid (sEnded (toI L) m true = 0) := Lib.hid (by rw [HE.out, if_neg (by simp)])
      clear HE
      go_wp2
      go_ret
      exact ⟨by rw [HV.out]; rfl, rfl⟩
    | succ j =>
      obtain ⟨y, Hy⟩ : ∃ y, Hid (L[j]? = some y) := ⟨_, Lib.hid (List.getElem?_eq_getElem (by have := Hn.out; omega))⟩
      obtain ⟨bk, off, rfl, cy⟩ := hA.atP' Hy.out
      have he := HE.out
      rw [Nat.add_sub_cancel, toI_at Hy.out] at he
      obtain ⟨i, hi⟩ : ∃ i, j + 1 = i := ⟨_, rfl⟩
      have e1 : (i : Int) - 1 = (j : Int) := by omega
      have e2 : IntKind.i64.wrap ((i : Int) - 1) = (j : Int) := by rw [e1]; exact IntWalk.i64_in _ (by omega)
      have hi0 : 0 < i := by omega
      have hi0' : (0 : Int) < (i : Int) := by omega
      have hi0'' : (i : Int) > 0 := by omega
      have hjn : j < n := by omega
      have hj0 : (0 : Int) ≤ (j : Int) := by omega
      have hjn' : (j : Int) < (n : Int) := by omega
      rw [hi]
      clear hi H2 HE
      cases q1 : ((y : Int) == 9) with
      | true =>
        have HV : Hid (sEnded (toI L) m true = y) := Lib.hid (by rw [he, if_pos ⟨by omega, by unfold sStop; rw [q1]; rfl⟩])
        clear he
        go_wp2
        go_ret
        exact ⟨by rw [HV.out]; rfl, rfl⟩
      | false =>
        cases q2 : ((y : Int) == 10) with
        | true =>
          have HV : Hid (sEnded (toI L) m true = y) := Lib.hid (by rw [he, if_pos ⟨by omega, by unfold sStop; rw [q1, q2]; rfl⟩])
          clear he
          go_wp2
          go_ret
          exact ⟨by rw [HV.out]; rfl, rfl⟩
        | false =>
          have HV : Hid (sEnded (toI L) m true = 0) := Lib.hid (by rw [he, if_neg (by rintro ⟨_, h⟩; unfold sStop at h; rw [q1, q2] at h; cases h)])
          clear he
          go_wp2
          go_ret
          exact ⟨by rw [HV.out]; rfl, rfl⟩
  | false =>
    obtain rfl : m = k1 := hk1
    clear HO
    go_enter Tryz.func102, Tryz.ntmps102
    go_wp2_with fail
    refine H2.out.mono ?_
    rintro e w1 ⟨rfl, rfl⟩
    cases k2 with
    | zero =>
      have HV : Hid (sEnded (toI L) m false = 0) := Lib.hid (by rw [HE.out, if_neg (by simp)])
      clear HE
      go_wp2
      go_ret
      exact ⟨by rw [HV.out]; rfl, rfl⟩
    | succ j =>
      obtain ⟨y, Hy⟩ : ∃ y, Hid (L[j]? = some y) := ⟨_, Lib.hid (List.getElem?_eq_getElem (by have := Hn.out; omega))⟩
      obtain ⟨bk, off, rfl, cy⟩ := hA.atP' Hy.out
      have he := HE.out
      rw [Nat.add_sub_cancel, toI_at Hy.out] at he
      obtain ⟨i, hi⟩ : ∃ i, j + 1 = i := ⟨_, rfl⟩
      have e1 : (i : Int) - 1 = (j : Int) := by omega
      have e2 : IntKind.i64.wrap ((i : Int) - 1) = (j : Int) := by rw [e1]; exact IntWalk.i64_in _ (by omega)
      have hi0 : 0 < i := by omega
      have hi0' : (0 : Int) < (i : Int) := by omega
      have hi0'' : (i : Int) > 0 := by omega
      have hjn : j < n := by omega
      have hj0 : (0 : Int) ≤ (j : Int) := by omega
      have hjn' : (j : Int) < (n : Int) := by omega
      rw [hi]
      clear hi H2 HE
      cases q1 : ((y : Int) == 9) with
      | true =>
        have HV : Hid (sEnded (toI L) m false = y) := Lib.hid (by rw [he, if_pos ⟨by omega, by unfold sStop; rw [q1]; rfl⟩])
        clear he
        go_wp2
        go_ret
        exact ⟨by rw [HV.out]; rfl, rfl⟩
      | false =>
        cases q2 : ((y : Int) == 10) with
        | true =>
          have HV : Hid (sEnded (toI L) m false = y) := Lib.hid (by rw [he, if_pos ⟨by omega, by unfold sStop; rw [q1, q2]; rfl⟩])
          clear he
          go_wp2
          go_ret
          exact ⟨by rw [HV.out]; rfl, rfl⟩
        | false =>
          have HV : Hid (sEnded (toI L) m false = 0) := Lib.hid (by rw [he, if_neg (by rintro ⟨_, h⟩; unfold sStop at h; rw [q1, q2] at h; cases h)])
          clear he
          go_wp2
          go_ret
          exact ⟨by rw [HV.out]; rfl, rfl⟩
theorem goR_at {L : List Nat} {i y : Nat} (h : L[i]? = some y) : goR (L.drop i) = if y = 5 then true else if [7, 6, 3, 1, 2, 9, 10].contains y then false else goR (L.drop (i + 1)) := by
  obtain ⟨hi, e⟩ := List.getElem?_eq_some_iff.1 h
  rw [List.drop_eq_getElem_cons hi, e, goR]
set_option maxRecDepth 100000 in
set_option maxHeartbeats 4000000 in
theorem ngoesOn_any (A : Option Addr) (n c : Nat) (L : List Nat) (m : Nat) (w : World) (hA : Rd w 1 A (L.map encN)) (hl : L.length = n) (hm : m ≤ n) (hn : n ≤ 4000000) :
    Calls Tryz.prog 104 #[.slice A n c, .int .i64 (m : Nat)] w fun e w' => e = .returned (.bool (goR (L.drop m))) ∧ w = w' := by
  have Hn := Lib.hid hl
  have HG := Lib.hid (fun i y (h : L[i]? = some y) => goR_at h)
  clear hl
  go_enter Tryz.func104, Tryz.ntmps104
  go_wp2_with fail
  go_loopw [1] (fun v wr => ∃ i : Nat, v = .int .i64 i ∧ i ≤ n ∧ wr = w ∧ Hid (goR (L.drop m) = goR (L.drop i))) (fun v _ => n - (intOf v).toNat)
  case atStart => exact ⟨m, rfl, hm, rfl, Lib.hid rfl⟩
  case round =>
    obtain ⟨i, rfl, hi, rfl, HN⟩ := hrel
    by_cases hlt : i < n
    · obtain ⟨y, Hy⟩ : ∃ y, Hid (L[i]? = some y) := ⟨_, Lib.hid (List.getElem?_eq_getElem (by have := Hn.out; omega))⟩
      obtain ⟨bk, off, rfl, cy⟩ := hA.atP' Hy.out
      have hg := HG.out i y Hy.out
      have hN := HN.out
      rw [hg] at hN
      clear hg HN
      by_cases h8 : y = 5 ∨ y = 7 ∨ y = 6 ∨ y = 3 ∨ y = 1 ∨ y = 2 ∨ y = 9 ∨ y = 10
      · rcases h8 with h | h | h | h | h | h | h | h
        · have hV : Hid (goR (L.drop m) = true) := Lib.hid (by rw [hN, h]; rfl)
          have cz : wr.cell? ⟨bk, off + i, none⟩ = some (.int .i64 5) := by rw [cy, h]; rfl
          clear hN cy h
          go_wp2
          go_ret
          exact ⟨by rw [hV.out]; rfl, rfl⟩
        · have hV : Hid (goR (L.drop m) = false) := Lib.hid (by rw [hN, h]; rfl)
          have cz : wr.cell? ⟨bk, off + i, none⟩ = some (.int .i64 7) := by rw [cy, h]; rfl
          clear hN cy h
          go_wp2
          go_ret
          exact ⟨by rw [hV.out]; rfl, rfl⟩
        · have hV : Hid (goR (L.drop m) = false) := Lib.hid (by rw [hN, h]; rfl)
          have cz : wr.cell? ⟨bk, off + i, none⟩ = some (.int .i64 6) := by rw [cy, h]; rfl
          clear hN cy h
          go_wp2
          go_ret
          exact ⟨by rw [hV.out]; rfl, rfl⟩
        · have hV : Hid (goR (L.drop m) = false) := Lib.hid (by rw [hN, h]; rfl)
          have cz : wr.cell? ⟨bk, off + i, none⟩ = some (.int .i64 3) := by rw [cy, h]; rfl
          clear hN cy h
          go_wp2
          go_ret
          exact ⟨by rw [hV.out]; rfl, rfl⟩
        · have hV : Hid (goR (L.drop m) = false) := Lib.hid (by rw [hN, h]; rfl)
          have cz : wr.cell? ⟨bk, off + i, none⟩ = some (.int .i64 1) := by rw [cy, h]; rfl
          clear hN cy h
          go_wp2
          go_ret
          exact ⟨by rw [hV.out]; rfl, rfl⟩
        · have hV : Hid (goR (L.drop m) = false) := Lib.hid (by rw [hN, h]; rfl)
          have cz : wr.cell? ⟨bk, off + i, none⟩ = some (.int .i64 2) := by rw [cy, h]; rfl
          clear hN cy h
          go_wp2
          go_ret
          exact ⟨by rw [hV.out]; rfl, rfl⟩
        · have hV : Hid (goR (L.drop m) = false) := Lib.hid (by rw [hN, h]; rfl)
          have cz : wr.cell? ⟨bk, off + i, none⟩ = some (.int .i64 9) := by rw [cy, h]; rfl
          clear hN cy h
          go_wp2
          go_ret
          exact ⟨by rw [hV.out]; rfl, rfl⟩
        · have hV : Hid (goR (L.drop m) = false) := Lib.hid (by rw [hN, h]; rfl)
          have cz : wr.cell? ⟨bk, off + i, none⟩ = some (.int .i64 10) := by rw [cy, h]; rfl
          clear hN cy h
          go_wp2
          go_ret
          exact ⟨by rw [hV.out]; rfl, rfl⟩
      · have hV : Hid (goR (L.drop m) = goR (L.drop (i + 1))) := Lib.hid (by rw [hN, if_neg (by omega), if_neg (by simp; omega)])
        have t5 : ((y : Int) == 5) = false := beq_eq_false_iff_ne.2 (by omega)
        have t7 : ((y : Int) == 7) = false := beq_eq_false_iff_ne.2 (by omega)
        have t6 : ((y : Int) == 6) = false := beq_eq_false_iff_ne.2 (by omega)
        have t3 : ((y : Int) == 3) = false := beq_eq_false_iff_ne.2 (by omega)
        have t1 : ((y : Int) == 1) = false := beq_eq_false_iff_ne.2 (by omega)
        have t2 : ((y : Int) == 2) = false := beq_eq_false_iff_ne.2 (by omega)
        have t9 : ((y : Int) == 9) = false := beq_eq_false_iff_ne.2 (by omega)
        have t10 : ((y : Int) == 10) = false := beq_eq_false_iff_ne.2 (by omega)
        clear hN h8
        go_wp2
        go_roundw
        case rel => exact ⟨i + 1, by go_num, by omega, by first | rfl | trivial, hV⟩
        case measure => simp [intOf]; omega
    · have hV : Hid (goR (L.drop m) = false) := Lib.hid (by rw [HN.out, List.drop_eq_nil_of_le (by have := Hn.out; omega)]; rfl)
      go_wp2
      go_ret
      exact ⟨by rw [hV.out]; rfl, rfl⟩
theorem sInitial_eq (c : List Int) (m k : Nat) (hk : sOver c 13 13 m = k) : sInitial c m = if k = 0 ∨ c.getD (k - 1) 0 ≠ 9 then false else (decide (sOver c 13 13 (k - 1) ≠ 0) && (c.getD (sOver c 13 13 (k - 1) - 1) 0 == 6 || c.getD (sOver c 13 13 (k - 1) - 1) 0 == 5)) := by
  subst hk; rfl
set_option maxRecDepth 100000 in
set_option maxHeartbeats 2000000 in
theorem ninitial_any (A : Option Addr) (n c : Nat) (L : List Nat) (m : Nat) (w : World) (hA : Rd w 1 A (L.map encN)) (hl : L.length = n) (hm : m ≤ n) (hn : n ≤ 4000000) :
    Calls Tryz.prog 103 #[.slice A n c, .int .i64 (m : Nat)] w fun e w' => e = .returned (.bool (sInitial (toI L) m)) ∧ w = w' := by
  have HO := Lib.hid (fun m a b (hm : m ≤ n) => nover_any A n c L m a b w hA hl hm hn)
  have Hn := Lib.hid hl
  obtain ⟨k, hk⟩ : ∃ k, sOver (toI L) 13 13 m = k := ⟨_, rfl⟩
  have hkm : k ≤ m := by rw [← hk]; exact sOver_le _ _ _ _
  have HE := Lib.hid (sInitial_eq (toI L) m k hk)
  have H1 := Lib.hid (HO.out m 13 13 hm)
  rw [hk] at H1
  clear hk hl
  go_enter Tryz.func103, Tryz.ntmps103
  go_wp2_with fail
  refine H1.out.mono ?_
  rintro e w1 ⟨rfl, rfl⟩
  cases k with
  | zero =>
    have HV : Hid (sInitial (toI L) m = false) := Lib.hid (by rw [HE.out, if_pos (.inl rfl)])
    clear HE
    go_wp2
    go_ret
    exact ⟨by rw [HV.out]; rfl, rfl⟩
  | succ j =>
    obtain ⟨y, Hy⟩ : ∃ y, Hid (L[j]? = some y) := ⟨_, Lib.hid (List.getElem?_eq_getElem (by have := Hn.out; omega))⟩
    obtain ⟨bk, off, rfl, cy⟩ := hA.atP' Hy.out
    have he := HE.out
    rw [Nat.add_sub_cancel, toI_at Hy.out] at he
    obtain ⟨i, hi⟩ : ∃ i, j + 1 = i := ⟨_, rfl⟩
    have e1 : (i : Int) - 1 = (j : Int) := by omega
    have e2 : IntKind.i64.wrap ((i : Int) - 1) = (j : Int) := by rw [e1]; exact IntWalk.i64_in _ (by omega)
    have e3 : IntKind.i64.wrap (j : Int) = (j : Int) := IntWalk.i64_in _ (by omega)
    have i0 : ((i : Int) == 0) = false := by rw [beq_eq_false_iff_ne]; omega
    have hjn : j < n := by omega
    have hj0 : (0 : Int) ≤ (j : Int) := by omega
    have hjn' : (j : Int) < (n : Int) := by omega
    rw [hi]
    clear hi H1 HE
    cases q1 : ((y : Int) != 9) with
    | true =>
      have HV : Hid (sInitial (toI L) m = false) := Lib.hid (by rw [he, if_pos (.inr (by simpa using q1))])
      clear he
      go_wp2
      go_ret
      exact ⟨by rw [HV.out]; rfl, rfl⟩
    | false =>
      rw [if_neg (by rintro (h | h); omega; exact absurd h (by simpa using q1))] at he
      obtain ⟨z, hz⟩ : ∃ z, sOver (toI L) 13 13 j = z := ⟨_, rfl⟩
      have hzj : z ≤ j := by rw [← hz]; exact sOver_le _ _ _ _
      have H2 := Lib.hid (HO.out j 13 13 (by omega))
      rw [hz] at H2 he
      clear hz
      go_wp2_with fail
      refine H2.out.mono ?_
      rintro e w1 ⟨rfl, rfl⟩
      clear H2 cy
      cases z with
      | zero =>
        have HV : Hid (sInitial (toI L) m = false) := Lib.hid (by rw [he]; rfl)
        clear he
        go_wp2
        go_ret
        exact ⟨by rw [HV.out]; rfl, rfl⟩
      | succ z =>
        obtain ⟨u, Hu⟩ : ∃ y, Hid (L[z]? = some y) := ⟨_, Lib.hid (List.getElem?_eq_getElem (by have := Hn.out; omega))⟩
        obtain ⟨bk2, off2, eB, cu⟩ := hA.atP' Hu.out
        injection eB with eB
        injection eB with e3' e4' _
        subst e3' e4'
        rw [Nat.add_sub_cancel, toI_at Hu.out] at he
        obtain ⟨g, hg⟩ : ∃ i, z + 1 = i := ⟨_, rfl⟩
        have d1 : (g : Int) - 1 = (z : Int) := by omega
        have d2 : IntKind.i64.wrap ((g : Int) - 1) = (z : Int) := by rw [d1]; exact IntWalk.i64_in _ (by omega)
        have d3 : (0 : Int) < (g : Int) := by omega
        have d4 : (g : Int) > 0 := by omega
        have d5 : 0 < g := by omega
        have hzn : z < n := by omega
        have hz0 : (0 : Int) ≤ (z : Int) := by omega
        have hzn' : (z : Int) < (n : Int) := by omega
        rw [hg]
        clear hg
        cases p1 : ((u : Int) == 6) with
        | true =>
          have HV : Hid (sInitial (toI L) m = true) := Lib.hid (by rw [he, p1]; simp)
          clear he
          go_wp2
          go_ret
          exact ⟨by rw [HV.out]; rfl, rfl⟩
        | false =>
          cases p2 : ((u : Int) == 5) with
          | true =>
            have HV : Hid (sInitial (toI L) m = true) := Lib.hid (by rw [he, p1, p2]; simp)
            clear he
            go_wp2
            go_ret
            exact ⟨by rw [HV.out]; rfl, rfl⟩
          | false =>
            have HV : Hid (sInitial (toI L) m = false) := Lib.hid (by rw [he, p1, p2]; simp)
            clear he
            go_wp2
            go_ret
            exact ⟨by rw [HV.out]; rfl, rfl⟩
def cutJ (y : Nat) (st ini go : Bool) (e8 last : Int) : Bool :=
  if y = 13 ∨ last = 0 then false
  else if st && y == 8 || y == 6 && ini then false
  else if last == 9 && go then false
  else if y = 12 ∨ y = 9 ∨ y = 10 then false
  else if y == 11 && e8 != 0 then false
  else if y = 4 ∨ y = 3 ∨ y = 1 ∨ y = 2 then false
  else true
theorem cuts_J {L : List Nat} {m x y : Nat} (hx : L[m - 1]? = some x) (hy : L[m]? = some y) (_h12 : ¬ (x = 1 ∧ y = 2)) (hs : ¬ (x = 1 ∨ x = 2 ∨ x = 3)) {k : Nat} (hk : sOver (toI L) 13 13 m = k) :
    sCuts (toI L) m = cutJ y (decide (k ≠ 0) && (toI L).getD (k - 1) 0 == 9) (sInitial (toI L) m) (goR (L.drop m)) (sEnded (toI L) m false) (sEnded (toI L) m true) := by
  subst hk
  unfold sCuts cutJ
  dsimp only
  rw [toI_at hx, toI_at hy, toI_drop, go_eq, if_neg (by omega)]
  have hl : sLine (x : Int) = false := by
    unfold sLine
    rw [Bool.or_eq_false_iff, Bool.or_eq_false_iff, beq_eq_false_iff_ne, beq_eq_false_iff_ne, beq_eq_false_iff_ne]
    omega
  rw [hl]
  have f : ∀ k : Nat, (((y : Int) == (k : Int)) = (y == k)) := fun k => by rw [Bool.eq_iff_iff, beq_iff_eq, beq_iff_eq]; omega
  have f8 := f 8
  have f6 := f 6
  have f11 := f 11
  have g : ∀ k : Nat, (((y : Int) = (k : Int)) = (y = k)) := fun k => propext (by omega)
  have g13 := g 13
  have g12 := g 12
  have g9 := g 9
  have g10 := g 10
  have g4 := g 4
  have g3 := g 3
  have g1 := g 1
  have g2 := g 2
  simp only [Int.cast_ofNat_Int] at f8 f6 f11 g13 g12 g9 g10 g4 g3 g1 g2
  rw [f8, f6, f11]
  simp only [g13, g12, g9, g10, g4, g3, g1, g2, Bool.false_eq_true, if_false]
set_option maxRecDepth 100000 in
set_option maxHeartbeats 16000000 in
theorem ncuts_any (A : Option Addr) (n c : Nat) (L : List Nat) (m : Nat) (w : World) (hA : Rd w 1 A (L.map encN)) (hl : L.length = n) (h0 : 0 < m) (hm : m < n) (hn : n ≤ 4000000) (h14 : ∀ x ∈ L, x < 14) :
    Calls Tryz.prog 82 #[.slice A n c, .int .i64 (m : Nat)] w fun e w' => e = .returned (.bool (sCuts (toI L) m)) ∧ Below w.heap.size w w' := by
  have HO := Lib.hid (fun W (hA : Rd W 1 A (L.map encN)) => nover_any A n c L m 13 13 W hA hl (by omega) hn)
  have HEn := Lib.hid (fun bl W (hA : Rd W 1 A (L.map encN)) => nended_any A n c L m bl W hA hl (by omega) hn)
  have HIn := Lib.hid (fun W (hA : Rd W 1 A (L.map encN)) => ninitial_any A n c L m W hA hl (by omega) hn)
  have HGo := Lib.hid (fun W (hA : Rd W 1 A (L.map encN)) => ngoesOn_any A n c L m W hA hl (by omega) hn)
  obtain ⟨j, hj⟩ : ∃ j, m - 1 = j := ⟨_, rfl⟩
  obtain ⟨x, hx⟩ : ∃ x, L[j]? = some x := ⟨_, List.getElem?_eq_getElem (by omega)⟩
  obtain ⟨y, hy⟩ : ∃ y, L[m]? = some y := ⟨_, List.getElem?_eq_getElem (by omega)⟩
  have hx14 := h14 x (List.mem_of_getElem? hx)
  have hy14 := h14 y (List.mem_of_getElem? hy)
  obtain ⟨k, hk⟩ : ∃ k, sOver (toI L) 13 13 m = k := ⟨_, rfl⟩
  have hkm : k ≤ m := by rw [← hk]; exact sOver_le _ _ _ _
  rw [hk] at HO
  have HJ : Hid (¬ (x = 1 ∧ y = 2) → ¬ (x = 1 ∨ x = 2 ∨ x = 3) → sCuts (toI L) m = cutJ y (decide (k ≠ 0) && (toI L).getD (k - 1) 0 == 9) (sInitial (toI L) m) (goR (L.drop m)) (sEnded (toI L) m false) (sEnded (toI L) m true)) := Lib.hid (fun h1 h2 => cuts_J (by rw [hj]; exact hx) hy h1 h2 hk)
  have HF : Hid (x = 1 ∧ y = 2 → sCuts (toI L) m = false) := Lib.hid (fun h => by
    unfold sCuts
    dsimp only
    rw [hj, toI_at hx, toI_at hy, if_pos (by omega)])
  have HT : Hid (¬ (x = 1 ∧ y = 2) → (x = 1 ∨ x = 2 ∨ x = 3) → sCuts (toI L) m = true) := Lib.hid (fun h1 h2 => by
    unfold sCuts
    dsimp only
    rw [hj, toI_at hx, toI_at hy, if_neg (by omega), if_pos]
    unfold sLine
    rw [Bool.or_eq_true, Bool.or_eq_true, beq_iff_eq, beq_iff_eq, beq_iff_eq]
    omega)
  obtain ⟨st, Hst⟩ : ∃ q, Hid ((decide (k ≠ 0) && (toI L).getD (k - 1) 0 == 9) = q) := ⟨_, Lib.hid rfl⟩
  rw [Hst.out] at HJ
  have HK : Hid (∀ i, k = i + 1 → ∃ u, L[i]? = some u ∧ ((u : Int) == 9) = st) := Lib.hid (fun i hi => by
    obtain ⟨u, hu⟩ : ∃ u, L[i]? = some u := ⟨_, List.getElem?_eq_getElem (by omega)⟩
    refine ⟨u, hu, ?_⟩
    have h1 := Hst.out
    rw [hi, Nat.add_sub_cancel, toI_at hu] at h1
    simpa using h1)
  have HK0 : Hid (k = 0 → st = false) := Lib.hid (fun h => by have h1 := Hst.out; rw [h] at h1; simpa using h1.symm)
  generalize sCuts (toI L) m = R at HJ HF HT ⊢
  generalize sInitial (toI L) m = ini at HJ HIn
  generalize goR (L.drop m) = go at HJ HGo
  have HE0 := Lib.hid (fun W hA => HEn.out false W hA)
  have HE1 := Lib.hid (fun W hA => HEn.out true W hA)
  generalize sEnded (toI L) m false = e8 at HJ HE0
  generalize sEnded (toI L) m true = z at HJ HE1
  have HX := Lib.hid hx
  have HY := Lib.hid hy
  have Hln := Lib.hid hl
  have e1 : (m : Int) - 1 = (j : Int) := by omega
  have e2 : IntKind.i64.wrap ((m : Int) - 1) = (j : Int) := by rw [e1]; exact IntWalk.i64_in _ (by omega)
  have hjn : j < n := by omega
  have hj0 : (0 : Int) ≤ (j : Int) := by omega
  have hjn' : (j : Int) < (n : Int) := by omega
  obtain ⟨bk, off, rfl, cx⟩ := hA.atP' HX.out
  obtain ⟨bk2, off2, eB, cy⟩ := hA.atP' HY.out
  injection eB with eB
  injection eB with e3' e4' _
  subst e3' e4'
  clear hj hx hy hk hl h14 HEn Hst
  go_enter Tryz.func82, Tryz.ntmps82
  go_wp2_with fail
  go_region
  have hA1 := hA.drew
  have hbz : Below w.heap.size w w.drew := (Below.refl _ _).drew
  clear cx cy
  by_cases h12 : x = 1 ∧ y = 2
  · have HV := Lib.hid (HF.out h12)
    obtain ⟨rfl, rfl⟩ := h12
    clear HF HT HJ
    go_wp2
    go_ret
    exact ⟨by rw [HV.out]; rfl, hbz⟩
  by_cases h3 : x = 1 ∨ x = 2 ∨ x = 3
  · have HV := Lib.hid (HT.out h12 h3)
    clear HF HT HJ
    rcases h3 with rfl | rfl | rfl
    · have q2 : ((y : Int) == 2) = false := by rw [beq_eq_false_iff_ne]; omega
      go_wp2
      go_ret
      exact ⟨by rw [HV.out]; rfl, hbz⟩
    · go_wp2
      go_ret
      exact ⟨by rw [HV.out]; rfl, hbz⟩
    · go_wp2
      go_ret
      exact ⟨by rw [HV.out]; rfl, hbz⟩
  have HV := Lib.hid (HJ.out h12 h3)
  have x1 : ((x : Int) == 1) = false := by rw [beq_eq_false_iff_ne]; omega
  have x2 : ((x : Int) == 2) = false := by rw [beq_eq_false_iff_ne]; omega
  have x3 : ((x : Int) == 3) = false := by rw [beq_eq_false_iff_ne]; omega
  clear HF HT HJ h12 h3
  generalize w.drew = w1 at hA1 hbz ⊢
  go_wp2_with fail
  refine (HO.out w1 hA1).mono ?_
  rintro e w2 ⟨rfl, rfl⟩
  go_upto_region 7 with fail
  go_cut [8] from 38 to 47 (fun v wx => v = .bool st ∧ wx = w1)
  case first =>
    rcases Nat.eq_zero_or_pos k with hk0 | hk0
    · have hs0 := HK0.out hk0
      subst hs0
      have t0 : ¬ ((k : Int) > 0) := by omega
      clear hk0
      go_wp2_with fail
      go_meet
      exact ⟨rfl, rfl⟩
    · obtain ⟨i, hi⟩ : ∃ i, k = i + 1 := ⟨k - 1, by omega⟩
      obtain ⟨u, hu, hust⟩ := HK.out i hi
      obtain ⟨bk3, off3, eB, cu⟩ := hA1.atP' hu
      injection eB with eB
      injection eB with e3' e4' _
      subst e3' e4'
      have d1 : (k : Int) - 1 = (i : Int) := by omega
      have d2 : IntKind.i64.wrap ((k : Int) - 1) = (i : Int) := by rw [d1]; exact IntWalk.i64_in _ (by omega)
      have d3 : (0 : Int) < (k : Int) := by omega
      have d4 : (k : Int) > 0 := by omega
      have d5 : 0 < k := by omega
      have hzn : i < n := by omega
      have hz0 : (0 : Int) ≤ (i : Int) := by omega
      have hzn' : (i : Int) < (n : Int) := by omega
      clear hi hu hk0
      go_wp2_with fail
      go_meet
      exact ⟨by first | rfl | rw [hust], rfl⟩
  case rest =>
    obtain ⟨rfl, rfl⟩ := hcut
    clear HK HK0
    go_wp2_with fail
    refine (HE1.out wc hA1).mono ?_
    rintro e w2 ⟨rfl, rfl⟩
    have H8 := Lib.hid (HE0.out wc hA1)
    have H6 := Lib.hid (HIn.out wc hA1)
    have H9 := Lib.hid (HGo.out wc hA1)
    clear HE0 HE1 HIn HGo HO
    by_cases hz0 : z = 0
    · have HV2 : Hid (R = false) := Lib.hid (by rw [HV.out, hz0]; simp [cutJ])
      have z0 : (z == 0) = true := by rw [hz0]; rfl
      clear HV hz0
      cases q13 : ((y : Int) == 13)
      all_goals
        cases st
        all_goals
          go_wp2
          go_ret
          exact ⟨by rw [HV2.out]; rfl, hbz⟩
    have z0 : (z == 0) = false := beq_eq_false_iff_ne.2 hz0
    have hy14c : y = 0 ∨ y = 1 ∨ y = 2 ∨ y = 3 ∨ y = 4 ∨ y = 5 ∨ y = 6 ∨ y = 7 ∨ y = 8 ∨ y = 9 ∨ y = 10 ∨ y = 11 ∨ y = 12 ∨ y = 13 := by omega
    cases st with
    | true =>
      rcases hy14c with rfl | rfl | rfl | rfl | rfl | rfl | rfl | rfl | rfl | rfl | rfl | rfl | rfl | rfl
      · skip
        by_cases hz9 : z = 9
        · have z9 : (z == 9) = true := by rw [hz9]; rfl
          cases go with
          | true =>
            have HV2 : Hid (R = false) := Lib.hid (by rw [HV.out]; simp [cutJ, hz9])
            clear HV
            go_wp2_with fail
            refine H9.out.mono ?_
            rintro e w2 ⟨rfl, rfl⟩
            go_wp2
            go_ret
            exact ⟨by rw [HV2.out]; rfl, hbz⟩
          | false =>
            have HV2 : Hid (R = true) := Lib.hid (by rw [HV.out]; simp [cutJ, hz9])
            clear HV
            go_wp2_with fail
            refine H9.out.mono ?_
            rintro e w2 ⟨rfl, rfl⟩
            go_wp2
            go_ret
            exact ⟨by rw [HV2.out]; rfl, hbz⟩
        · have z9 : (z == 9) = false := beq_eq_false_iff_ne.2 hz9
          have HV2 : Hid (R = true) := Lib.hid (by rw [HV.out]; simp [cutJ, hz0, hz9])
          clear HV
          go_wp2
          go_ret
          exact ⟨by rw [HV2.out]; rfl, hbz⟩
      · skip
        by_cases hz9 : z = 9
        · have z9 : (z == 9) = true := by rw [hz9]; rfl
          cases go with
          | true =>
            have HV2 : Hid (R = false) := Lib.hid (by rw [HV.out]; simp [cutJ, hz9])
            clear HV
            go_wp2_with fail
            refine H9.out.mono ?_
            rintro e w2 ⟨rfl, rfl⟩
            go_wp2
            go_ret
            exact ⟨by rw [HV2.out]; rfl, hbz⟩
          | false =>
            have HV2 : Hid (R = false) := Lib.hid (by rw [HV.out]; simp [cutJ, hz9])
            clear HV
            go_wp2_with fail
            refine H9.out.mono ?_
            rintro e w2 ⟨rfl, rfl⟩
            go_wp2
            go_ret
            exact ⟨by rw [HV2.out]; rfl, hbz⟩
        · have z9 : (z == 9) = false := beq_eq_false_iff_ne.2 hz9
          have HV2 : Hid (R = false) := Lib.hid (by rw [HV.out]; simp [cutJ, hz0, hz9])
          clear HV
          go_wp2
          go_ret
          exact ⟨by rw [HV2.out]; rfl, hbz⟩
      · skip
        by_cases hz9 : z = 9
        · have z9 : (z == 9) = true := by rw [hz9]; rfl
          cases go with
          | true =>
            have HV2 : Hid (R = false) := Lib.hid (by rw [HV.out]; simp [cutJ, hz9])
            clear HV
            go_wp2_with fail
            refine H9.out.mono ?_
            rintro e w2 ⟨rfl, rfl⟩
            go_wp2
            go_ret
            exact ⟨by rw [HV2.out]; rfl, hbz⟩
          | false =>
            have HV2 : Hid (R = false) := Lib.hid (by rw [HV.out]; simp [cutJ, hz9])
            clear HV
            go_wp2_with fail
            refine H9.out.mono ?_
            rintro e w2 ⟨rfl, rfl⟩
            go_wp2
            go_ret
            exact ⟨by rw [HV2.out]; rfl, hbz⟩
        · have z9 : (z == 9) = false := beq_eq_false_iff_ne.2 hz9
          have HV2 : Hid (R = false) := Lib.hid (by rw [HV.out]; simp [cutJ, hz0, hz9])
          clear HV
          go_wp2
          go_ret
          exact ⟨by rw [HV2.out]; rfl, hbz⟩
      · skip
        by_cases hz9 : z = 9
        · have z9 : (z == 9) = true := by rw [hz9]; rfl
          cases go with
          | true =>
            have HV2 : Hid (R = false) := Lib.hid (by rw [HV.out]; simp [cutJ, hz9])
            clear HV
            go_wp2_with fail
            refine H9.out.mono ?_
            rintro e w2 ⟨rfl, rfl⟩
            go_wp2
            go_ret
            exact ⟨by rw [HV2.out]; rfl, hbz⟩
          | false =>
            have HV2 : Hid (R = false) := Lib.hid (by rw [HV.out]; simp [cutJ, hz9])
            clear HV
            go_wp2_with fail
            refine H9.out.mono ?_
            rintro e w2 ⟨rfl, rfl⟩
            go_wp2
            go_ret
            exact ⟨by rw [HV2.out]; rfl, hbz⟩
        · have z9 : (z == 9) = false := beq_eq_false_iff_ne.2 hz9
          have HV2 : Hid (R = false) := Lib.hid (by rw [HV.out]; simp [cutJ, hz0, hz9])
          clear HV
          go_wp2
          go_ret
          exact ⟨by rw [HV2.out]; rfl, hbz⟩
      · skip
        by_cases hz9 : z = 9
        · have z9 : (z == 9) = true := by rw [hz9]; rfl
          cases go with
          | true =>
            have HV2 : Hid (R = false) := Lib.hid (by rw [HV.out]; simp [cutJ, hz9])
            clear HV
            go_wp2_with fail
            refine H9.out.mono ?_
            rintro e w2 ⟨rfl, rfl⟩
            go_wp2
            go_ret
            exact ⟨by rw [HV2.out]; rfl, hbz⟩
          | false =>
            have HV2 : Hid (R = false) := Lib.hid (by rw [HV.out]; simp [cutJ, hz9])
            clear HV
            go_wp2_with fail
            refine H9.out.mono ?_
            rintro e w2 ⟨rfl, rfl⟩
            go_wp2
            go_ret
            exact ⟨by rw [HV2.out]; rfl, hbz⟩
        · have z9 : (z == 9) = false := beq_eq_false_iff_ne.2 hz9
          have HV2 : Hid (R = false) := Lib.hid (by rw [HV.out]; simp [cutJ, hz0, hz9])
          clear HV
          go_wp2
          go_ret
          exact ⟨by rw [HV2.out]; rfl, hbz⟩
      · skip
        by_cases hz9 : z = 9
        · have z9 : (z == 9) = true := by rw [hz9]; rfl
          cases go with
          | true =>
            have HV2 : Hid (R = false) := Lib.hid (by rw [HV.out]; simp [cutJ, hz9])
            clear HV
            go_wp2_with fail
            refine H9.out.mono ?_
            rintro e w2 ⟨rfl, rfl⟩
            go_wp2
            go_ret
            exact ⟨by rw [HV2.out]; rfl, hbz⟩
          | false =>
            have HV2 : Hid (R = true) := Lib.hid (by rw [HV.out]; simp [cutJ, hz9])
            clear HV
            go_wp2_with fail
            refine H9.out.mono ?_
            rintro e w2 ⟨rfl, rfl⟩
            go_wp2
            go_ret
            exact ⟨by rw [HV2.out]; rfl, hbz⟩
        · have z9 : (z == 9) = false := beq_eq_false_iff_ne.2 hz9
          have HV2 : Hid (R = true) := Lib.hid (by rw [HV.out]; simp [cutJ, hz0, hz9])
          clear HV
          go_wp2
          go_ret
          exact ⟨by rw [HV2.out]; rfl, hbz⟩
      · skip
        cases ini with
        | true =>
          have HV2 : Hid (R = false) := Lib.hid (by rw [HV.out]; simp [cutJ, hz0])
          clear HV
          go_wp2_with fail
          refine H6.out.mono ?_
          rintro e w2 ⟨rfl, rfl⟩
          go_wp2
          go_ret
          exact ⟨by rw [HV2.out]; rfl, hbz⟩
        | false =>
          by_cases hz9 : z = 9
          · have z9 : (z == 9) = true := by rw [hz9]; rfl
            cases go with
            | true =>
              have HV2 : Hid (R = false) := Lib.hid (by rw [HV.out]; simp [cutJ, hz9])
              clear HV
              go_wp2_with fail
              refine H6.out.mono ?_
              rintro e w2 ⟨rfl, rfl⟩
              go_wp2_with fail
              refine H9.out.mono ?_
              rintro e w2 ⟨rfl, rfl⟩
              go_wp2
              go_ret
              exact ⟨by rw [HV2.out]; rfl, hbz⟩
            | false =>
              have HV2 : Hid (R = true) := Lib.hid (by rw [HV.out]; simp [cutJ, hz9])
              clear HV
              go_wp2_with fail
              refine H6.out.mono ?_
              rintro e w2 ⟨rfl, rfl⟩
              go_wp2_with fail
              refine H9.out.mono ?_
              rintro e w2 ⟨rfl, rfl⟩
              go_wp2
              go_ret
              exact ⟨by rw [HV2.out]; rfl, hbz⟩
          · have z9 : (z == 9) = false := beq_eq_false_iff_ne.2 hz9
            have HV2 : Hid (R = true) := Lib.hid (by rw [HV.out]; simp [cutJ, hz0, hz9])
            clear HV
            go_wp2_with fail
            refine H6.out.mono ?_
            rintro e w2 ⟨rfl, rfl⟩
            go_wp2
            go_ret
            exact ⟨by rw [HV2.out]; rfl, hbz⟩
      · skip
        by_cases hz9 : z = 9
        · have z9 : (z == 9) = true := by rw [hz9]; rfl
          cases go with
          | true =>
            have HV2 : Hid (R = false) := Lib.hid (by rw [HV.out]; simp [cutJ, hz9])
            clear HV
            go_wp2_with fail
            refine H9.out.mono ?_
            rintro e w2 ⟨rfl, rfl⟩
            go_wp2
            go_ret
            exact ⟨by rw [HV2.out]; rfl, hbz⟩
          | false =>
            have HV2 : Hid (R = true) := Lib.hid (by rw [HV.out]; simp [cutJ, hz9])
            clear HV
            go_wp2_with fail
            refine H9.out.mono ?_
            rintro e w2 ⟨rfl, rfl⟩
            go_wp2
            go_ret
            exact ⟨by rw [HV2.out]; rfl, hbz⟩
        · have z9 : (z == 9) = false := beq_eq_false_iff_ne.2 hz9
          have HV2 : Hid (R = true) := Lib.hid (by rw [HV.out]; simp [cutJ, hz0, hz9])
          clear HV
          go_wp2
          go_ret
          exact ⟨by rw [HV2.out]; rfl, hbz⟩
      · skip
        have HV2 : Hid (R = false) := Lib.hid (by rw [HV.out]; simp [cutJ, hz0])
        clear HV
        go_wp2
        go_ret
        exact ⟨by rw [HV2.out]; rfl, hbz⟩
      · skip
        by_cases hz9 : z = 9
        · have z9 : (z == 9) = true := by rw [hz9]; rfl
          cases go with
          | true =>
            have HV2 : Hid (R = false) := Lib.hid (by rw [HV.out]; simp [cutJ, hz9])
            clear HV
            go_wp2_with fail
            refine H9.out.mono ?_
            rintro e w2 ⟨rfl, rfl⟩
            go_wp2
            go_ret
            exact ⟨by rw [HV2.out]; rfl, hbz⟩
          | false =>
            have HV2 : Hid (R = false) := Lib.hid (by rw [HV.out]; simp [cutJ, hz9])
            clear HV
            go_wp2_with fail
            refine H9.out.mono ?_
            rintro e w2 ⟨rfl, rfl⟩
            go_wp2
            go_ret
            exact ⟨by rw [HV2.out]; rfl, hbz⟩
        · have z9 : (z == 9) = false := beq_eq_false_iff_ne.2 hz9
          have HV2 : Hid (R = false) := Lib.hid (by rw [HV.out]; simp [cutJ, hz0, hz9])
          clear HV
          go_wp2
          go_ret
          exact ⟨by rw [HV2.out]; rfl, hbz⟩
      · skip
        by_cases hz9 : z = 9
        · have z9 : (z == 9) = true := by rw [hz9]; rfl
          cases go with
          | true =>
            have HV2 : Hid (R = false) := Lib.hid (by rw [HV.out]; simp [cutJ, hz9])
            clear HV
            go_wp2_with fail
            refine H9.out.mono ?_
            rintro e w2 ⟨rfl, rfl⟩
            go_wp2
            go_ret
            exact ⟨by rw [HV2.out]; rfl, hbz⟩
          | false =>
            have HV2 : Hid (R = false) := Lib.hid (by rw [HV.out]; simp [cutJ, hz9])
            clear HV
            go_wp2_with fail
            refine H9.out.mono ?_
            rintro e w2 ⟨rfl, rfl⟩
            go_wp2
            go_ret
            exact ⟨by rw [HV2.out]; rfl, hbz⟩
        · have z9 : (z == 9) = false := beq_eq_false_iff_ne.2 hz9
          have HV2 : Hid (R = false) := Lib.hid (by rw [HV.out]; simp [cutJ, hz0, hz9])
          clear HV
          go_wp2
          go_ret
          exact ⟨by rw [HV2.out]; rfl, hbz⟩
      · skip
        by_cases hz9 : z = 9
        · have z9 : (z == 9) = true := by rw [hz9]; rfl
          cases go with
          | true =>
            have HV2 : Hid (R = false) := Lib.hid (by rw [HV.out]; simp [cutJ, hz9])
            clear HV
            go_wp2_with fail
            refine H9.out.mono ?_
            rintro e w2 ⟨rfl, rfl⟩
            go_wp2
            go_ret
            exact ⟨by rw [HV2.out]; rfl, hbz⟩
          | false =>
            by_cases h8 : e8 = 0
            · have t8 : (e8 != 0) = false := by rw [h8]; rfl
              have HV2 : Hid (R = true) := Lib.hid (by rw [HV.out]; simp [cutJ, hz9, h8])
              clear HV
              go_wp2_with fail
              refine H9.out.mono ?_
              rintro e w2 ⟨rfl, rfl⟩
              go_wp2_with fail
              refine H8.out.mono ?_
              rintro e w2 ⟨rfl, rfl⟩
              go_wp2
              go_ret
              exact ⟨by rw [HV2.out]; rfl, hbz⟩
            · have t8 : (e8 != 0) = true := by simpa using h8
              have HV2 : Hid (R = false) := Lib.hid (by rw [HV.out]; simp [cutJ, hz9, h8])
              clear HV
              go_wp2_with fail
              refine H9.out.mono ?_
              rintro e w2 ⟨rfl, rfl⟩
              go_wp2_with fail
              refine H8.out.mono ?_
              rintro e w2 ⟨rfl, rfl⟩
              go_wp2
              go_ret
              exact ⟨by rw [HV2.out]; rfl, hbz⟩
        · have z9 : (z == 9) = false := beq_eq_false_iff_ne.2 hz9
          by_cases h8 : e8 = 0
          · have t8 : (e8 != 0) = false := by rw [h8]; rfl
            have HV2 : Hid (R = true) := Lib.hid (by rw [HV.out]; simp [cutJ, hz0, hz9, h8])
            clear HV
            go_wp2_with fail
            refine H8.out.mono ?_
            rintro e w2 ⟨rfl, rfl⟩
            go_wp2
            go_ret
            exact ⟨by rw [HV2.out]; rfl, hbz⟩
          · have t8 : (e8 != 0) = true := by simpa using h8
            have HV2 : Hid (R = false) := Lib.hid (by rw [HV.out]; simp [cutJ, hz0, hz9, h8])
            clear HV
            go_wp2_with fail
            refine H8.out.mono ?_
            rintro e w2 ⟨rfl, rfl⟩
            go_wp2
            go_ret
            exact ⟨by rw [HV2.out]; rfl, hbz⟩
      · skip
        by_cases hz9 : z = 9
        · have z9 : (z == 9) = true := by rw [hz9]; rfl
          cases go with
          | true =>
            have HV2 : Hid (R = false) := Lib.hid (by rw [HV.out]; simp [cutJ, hz9])
            clear HV
            go_wp2_with fail
            refine H9.out.mono ?_
            rintro e w2 ⟨rfl, rfl⟩
            go_wp2
            go_ret
            exact ⟨by rw [HV2.out]; rfl, hbz⟩
          | false =>
            have HV2 : Hid (R = false) := Lib.hid (by rw [HV.out]; simp [cutJ, hz9])
            clear HV
            go_wp2_with fail
            refine H9.out.mono ?_
            rintro e w2 ⟨rfl, rfl⟩
            go_wp2
            go_ret
            exact ⟨by rw [HV2.out]; rfl, hbz⟩
        · have z9 : (z == 9) = false := beq_eq_false_iff_ne.2 hz9
          have HV2 : Hid (R = false) := Lib.hid (by rw [HV.out]; simp [cutJ, hz0, hz9])
          clear HV
          go_wp2
          go_ret
          exact ⟨by rw [HV2.out]; rfl, hbz⟩
      · skip
        have HV2 : Hid (R = false) := Lib.hid (by rw [HV.out]; simp [cutJ, hz0])
        clear HV
        go_wp2
        go_ret
        exact ⟨by rw [HV2.out]; rfl, hbz⟩
    | false =>
      rcases hy14c with rfl | rfl | rfl | rfl | rfl | rfl | rfl | rfl | rfl | rfl | rfl | rfl | rfl | rfl
      · skip
        by_cases hz9 : z = 9
        · have z9 : (z == 9) = true := by rw [hz9]; rfl
          cases go with
          | true =>
            have HV2 : Hid (R = false) := Lib.hid (by rw [HV.out]; simp [cutJ, hz9])
            clear HV
            go_wp2_with fail
            refine H9.out.mono ?_
            rintro e w2 ⟨rfl, rfl⟩
            go_wp2
            go_ret
            exact ⟨by rw [HV2.out]; rfl, hbz⟩
          | false =>
            have HV2 : Hid (R = true) := Lib.hid (by rw [HV.out]; simp [cutJ, hz9])
            clear HV
            go_wp2_with fail
            refine H9.out.mono ?_
            rintro e w2 ⟨rfl, rfl⟩
            go_wp2
            go_ret
            exact ⟨by rw [HV2.out]; rfl, hbz⟩
        · have z9 : (z == 9) = false := beq_eq_false_iff_ne.2 hz9
          have HV2 : Hid (R = true) := Lib.hid (by rw [HV.out]; simp [cutJ, hz0, hz9])
          clear HV
          go_wp2
          go_ret
          exact ⟨by rw [HV2.out]; rfl, hbz⟩
      · skip
        by_cases hz9 : z = 9
        · have z9 : (z == 9) = true := by rw [hz9]; rfl
          cases go with
          | true =>
            have HV2 : Hid (R = false) := Lib.hid (by rw [HV.out]; simp [cutJ, hz9])
            clear HV
            go_wp2_with fail
            refine H9.out.mono ?_
            rintro e w2 ⟨rfl, rfl⟩
            go_wp2
            go_ret
            exact ⟨by rw [HV2.out]; rfl, hbz⟩
          | false =>
            have HV2 : Hid (R = false) := Lib.hid (by rw [HV.out]; simp [cutJ, hz9])
            clear HV
            go_wp2_with fail
            refine H9.out.mono ?_
            rintro e w2 ⟨rfl, rfl⟩
            go_wp2
            go_ret
            exact ⟨by rw [HV2.out]; rfl, hbz⟩
        · have z9 : (z == 9) = false := beq_eq_false_iff_ne.2 hz9
          have HV2 : Hid (R = false) := Lib.hid (by rw [HV.out]; simp [cutJ, hz0, hz9])
          clear HV
          go_wp2
          go_ret
          exact ⟨by rw [HV2.out]; rfl, hbz⟩
      · skip
        by_cases hz9 : z = 9
        · have z9 : (z == 9) = true := by rw [hz9]; rfl
          cases go with
          | true =>
            have HV2 : Hid (R = false) := Lib.hid (by rw [HV.out]; simp [cutJ, hz9])
            clear HV
            go_wp2_with fail
            refine H9.out.mono ?_
            rintro e w2 ⟨rfl, rfl⟩
            go_wp2
            go_ret
            exact ⟨by rw [HV2.out]; rfl, hbz⟩
          | false =>
            have HV2 : Hid (R = false) := Lib.hid (by rw [HV.out]; simp [cutJ, hz9])
            clear HV
            go_wp2_with fail
            refine H9.out.mono ?_
            rintro e w2 ⟨rfl, rfl⟩
            go_wp2
            go_ret
            exact ⟨by rw [HV2.out]; rfl, hbz⟩
        · have z9 : (z == 9) = false := beq_eq_false_iff_ne.2 hz9
          have HV2 : Hid (R = false) := Lib.hid (by rw [HV.out]; simp [cutJ, hz0, hz9])
          clear HV
          go_wp2
          go_ret
          exact ⟨by rw [HV2.out]; rfl, hbz⟩
      · skip
        by_cases hz9 : z = 9
        · have z9 : (z == 9) = true := by rw [hz9]; rfl
          cases go with
          | true =>
            have HV2 : Hid (R = false) := Lib.hid (by rw [HV.out]; simp [cutJ, hz9])
            clear HV
            go_wp2_with fail
            refine H9.out.mono ?_
            rintro e w2 ⟨rfl, rfl⟩
            go_wp2
            go_ret
            exact ⟨by rw [HV2.out]; rfl, hbz⟩
          | false =>
            have HV2 : Hid (R = false) := Lib.hid (by rw [HV.out]; simp [cutJ, hz9])
            clear HV
            go_wp2_with fail
            refine H9.out.mono ?_
            rintro e w2 ⟨rfl, rfl⟩
            go_wp2
            go_ret
            exact ⟨by rw [HV2.out]; rfl, hbz⟩
        · have z9 : (z == 9) = false := beq_eq_false_iff_ne.2 hz9
          have HV2 : Hid (R = false) := Lib.hid (by rw [HV.out]; simp [cutJ, hz0, hz9])
          clear HV
          go_wp2
          go_ret
          exact ⟨by rw [HV2.out]; rfl, hbz⟩
      · skip
        by_cases hz9 : z = 9
        · have z9 : (z == 9) = true := by rw [hz9]; rfl
          cases go with
          | true =>
            have HV2 : Hid (R = false) := Lib.hid (by rw [HV.out]; simp [cutJ, hz9])
            clear HV
            go_wp2_with fail
            refine H9.out.mono ?_
            rintro e w2 ⟨rfl, rfl⟩
            go_wp2
            go_ret
            exact ⟨by rw [HV2.out]; rfl, hbz⟩
          | false =>
            have HV2 : Hid (R = false) := Lib.hid (by rw [HV.out]; simp [cutJ, hz9])
            clear HV
            go_wp2_with fail
            refine H9.out.mono ?_
            rintro e w2 ⟨rfl, rfl⟩
            go_wp2
            go_ret
            exact ⟨by rw [HV2.out]; rfl, hbz⟩
        · have z9 : (z == 9) = false := beq_eq_false_iff_ne.2 hz9
          have HV2 : Hid (R = false) := Lib.hid (by rw [HV.out]; simp [cutJ, hz0, hz9])
          clear HV
          go_wp2
          go_ret
          exact ⟨by rw [HV2.out]; rfl, hbz⟩
      · skip
        by_cases hz9 : z = 9
        · have z9 : (z == 9) = true := by rw [hz9]; rfl
          cases go with
          | true =>
            have HV2 : Hid (R = false) := Lib.hid (by rw [HV.out]; simp [cutJ, hz9])
            clear HV
            go_wp2_with fail
            refine H9.out.mono ?_
            rintro e w2 ⟨rfl, rfl⟩
            go_wp2
            go_ret
            exact ⟨by rw [HV2.out]; rfl, hbz⟩
          | false =>
            have HV2 : Hid (R = true) := Lib.hid (by rw [HV.out]; simp [cutJ, hz9])
            clear HV
            go_wp2_with fail
            refine H9.out.mono ?_
            rintro e w2 ⟨rfl, rfl⟩
            go_wp2
            go_ret
            exact ⟨by rw [HV2.out]; rfl, hbz⟩
        · have z9 : (z == 9) = false := beq_eq_false_iff_ne.2 hz9
          have HV2 : Hid (R = true) := Lib.hid (by rw [HV.out]; simp [cutJ, hz0, hz9])
          clear HV
          go_wp2
          go_ret
          exact ⟨by rw [HV2.out]; rfl, hbz⟩
      · skip
        cases ini with
        | true =>
          have HV2 : Hid (R = false) := Lib.hid (by rw [HV.out]; simp [cutJ, hz0])
          clear HV
          go_wp2_with fail
          refine H6.out.mono ?_
          rintro e w2 ⟨rfl, rfl⟩
          go_wp2
          go_ret
          exact ⟨by rw [HV2.out]; rfl, hbz⟩
        | false =>
          by_cases hz9 : z = 9
          · have z9 : (z == 9) = true := by rw [hz9]; rfl
            cases go with
            | true =>
              have HV2 : Hid (R = false) := Lib.hid (by rw [HV.out]; simp [cutJ, hz9])
              clear HV
              go_wp2_with fail
              refine H6.out.mono ?_
              rintro e w2 ⟨rfl, rfl⟩
              go_wp2_with fail
              refine H9.out.mono ?_
              rintro e w2 ⟨rfl, rfl⟩
              go_wp2
              go_ret
              exact ⟨by rw [HV2.out]; rfl, hbz⟩
            | false =>
              have HV2 : Hid (R = true) := Lib.hid (by rw [HV.out]; simp [cutJ, hz9])
              clear HV
              go_wp2_with fail
              refine H6.out.mono ?_
              rintro e w2 ⟨rfl, rfl⟩
              go_wp2_with fail
              refine H9.out.mono ?_
              rintro e w2 ⟨rfl, rfl⟩
              go_wp2
              go_ret
              exact ⟨by rw [HV2.out]; rfl, hbz⟩
          · have z9 : (z == 9) = false := beq_eq_false_iff_ne.2 hz9
            have HV2 : Hid (R = true) := Lib.hid (by rw [HV.out]; simp [cutJ, hz0, hz9])
            clear HV
            go_wp2_with fail
            refine H6.out.mono ?_
            rintro e w2 ⟨rfl, rfl⟩
            go_wp2
            go_ret
            exact ⟨by rw [HV2.out]; rfl, hbz⟩
      · skip
        by_cases hz9 : z = 9
        · have z9 : (z == 9) = true := by rw [hz9]; rfl
          cases go with
          | true =>
            have HV2 : Hid (R = false) := Lib.hid (by rw [HV.out]; simp [cutJ, hz9])
            clear HV
            go_wp2_with fail
            refine H9.out.mono ?_
            rintro e w2 ⟨rfl, rfl⟩
            go_wp2
            go_ret
            exact ⟨by rw [HV2.out]; rfl, hbz⟩
          | false =>
            have HV2 : Hid (R = true) := Lib.hid (by rw [HV.out]; simp [cutJ, hz9])
            clear HV
            go_wp2_with fail
            refine H9.out.mono ?_
            rintro e w2 ⟨rfl, rfl⟩
            go_wp2
            go_ret
            exact ⟨by rw [HV2.out]; rfl, hbz⟩
        · have z9 : (z == 9) = false := beq_eq_false_iff_ne.2 hz9
          have HV2 : Hid (R = true) := Lib.hid (by rw [HV.out]; simp [cutJ, hz0, hz9])
          clear HV
          go_wp2
          go_ret
          exact ⟨by rw [HV2.out]; rfl, hbz⟩
      · skip
        by_cases hz9 : z = 9
        · have z9 : (z == 9) = true := by rw [hz9]; rfl
          cases go with
          | true =>
            have HV2 : Hid (R = false) := Lib.hid (by rw [HV.out]; simp [cutJ, hz9])
            clear HV
            go_wp2_with fail
            refine H9.out.mono ?_
            rintro e w2 ⟨rfl, rfl⟩
            go_wp2
            go_ret
            exact ⟨by rw [HV2.out]; rfl, hbz⟩
          | false =>
            have HV2 : Hid (R = true) := Lib.hid (by rw [HV.out]; simp [cutJ, hz9])
            clear HV
            go_wp2_with fail
            refine H9.out.mono ?_
            rintro e w2 ⟨rfl, rfl⟩
            go_wp2
            go_ret
            exact ⟨by rw [HV2.out]; rfl, hbz⟩
        · have z9 : (z == 9) = false := beq_eq_false_iff_ne.2 hz9
          have HV2 : Hid (R = true) := Lib.hid (by rw [HV.out]; simp [cutJ, hz0, hz9])
          clear HV
          go_wp2
          go_ret
          exact ⟨by rw [HV2.out]; rfl, hbz⟩
      · skip
        by_cases hz9 : z = 9
        · have z9 : (z == 9) = true := by rw [hz9]; rfl
          cases go with
          | true =>
            have HV2 : Hid (R = false) := Lib.hid (by rw [HV.out]; simp [cutJ, hz9])
            clear HV
            go_wp2_with fail
            refine H9.out.mono ?_
            rintro e w2 ⟨rfl, rfl⟩
            go_wp2
            go_ret
            exact ⟨by rw [HV2.out]; rfl, hbz⟩
          | false =>
            have HV2 : Hid (R = false) := Lib.hid (by rw [HV.out]; simp [cutJ, hz9])
            clear HV
            go_wp2_with fail
            refine H9.out.mono ?_
            rintro e w2 ⟨rfl, rfl⟩
            go_wp2
            go_ret
            exact ⟨by rw [HV2.out]; rfl, hbz⟩
        · have z9 : (z == 9) = false := beq_eq_false_iff_ne.2 hz9
          have HV2 : Hid (R = false) := Lib.hid (by rw [HV.out]; simp [cutJ, hz0, hz9])
          clear HV
          go_wp2
          go_ret
          exact ⟨by rw [HV2.out]; rfl, hbz⟩
      · skip
        by_cases hz9 : z = 9
        · have z9 : (z == 9) = true := by rw [hz9]; rfl
          cases go with
          | true =>
            have HV2 : Hid (R = false) := Lib.hid (by rw [HV.out]; simp [cutJ, hz9])
            clear HV
            go_wp2_with fail
            refine H9.out.mono ?_
            rintro e w2 ⟨rfl, rfl⟩
            go_wp2
            go_ret
            exact ⟨by rw [HV2.out]; rfl, hbz⟩
          | false =>
            have HV2 : Hid (R = false) := Lib.hid (by rw [HV.out]; simp [cutJ, hz9])
            clear HV
            go_wp2_with fail
            refine H9.out.mono ?_
            rintro e w2 ⟨rfl, rfl⟩
            go_wp2
            go_ret
            exact ⟨by rw [HV2.out]; rfl, hbz⟩
        · have z9 : (z == 9) = false := beq_eq_false_iff_ne.2 hz9
          have HV2 : Hid (R = false) := Lib.hid (by rw [HV.out]; simp [cutJ, hz0, hz9])
          clear HV
          go_wp2
          go_ret
          exact ⟨by rw [HV2.out]; rfl, hbz⟩
      · skip
        by_cases hz9 : z = 9
        · have z9 : (z == 9) = true := by rw [hz9]; rfl
          cases go with
          | true =>
            have HV2 : Hid (R = false) := Lib.hid (by rw [HV.out]; simp [cutJ, hz9])
            clear HV
            go_wp2_with fail
            refine H9.out.mono ?_
            rintro e w2 ⟨rfl, rfl⟩
            go_wp2
            go_ret
            exact ⟨by rw [HV2.out]; rfl, hbz⟩
          | false =>
            by_cases h8 : e8 = 0
            · have t8 : (e8 != 0) = false := by rw [h8]; rfl
              have HV2 : Hid (R = true) := Lib.hid (by rw [HV.out]; simp [cutJ, hz9, h8])
              clear HV
              go_wp2_with fail
              refine H9.out.mono ?_
              rintro e w2 ⟨rfl, rfl⟩
              go_wp2_with fail
              refine H8.out.mono ?_
              rintro e w2 ⟨rfl, rfl⟩
              go_wp2
              go_ret
              exact ⟨by rw [HV2.out]; rfl, hbz⟩
            · have t8 : (e8 != 0) = true := by simpa using h8
              have HV2 : Hid (R = false) := Lib.hid (by rw [HV.out]; simp [cutJ, hz9, h8])
              clear HV
              go_wp2_with fail
              refine H9.out.mono ?_
              rintro e w2 ⟨rfl, rfl⟩
              go_wp2_with fail
              refine H8.out.mono ?_
              rintro e w2 ⟨rfl, rfl⟩
              go_wp2
              go_ret
              exact ⟨by rw [HV2.out]; rfl, hbz⟩
        · have z9 : (z == 9) = false := beq_eq_false_iff_ne.2 hz9
          by_cases h8 : e8 = 0
          · have t8 : (e8 != 0) = false := by rw [h8]; rfl
            have HV2 : Hid (R = true) := Lib.hid (by rw [HV.out]; simp [cutJ, hz0, hz9, h8])
            clear HV
            go_wp2_with fail
            refine H8.out.mono ?_
            rintro e w2 ⟨rfl, rfl⟩
            go_wp2
            go_ret
            exact ⟨by rw [HV2.out]; rfl, hbz⟩
          · have t8 : (e8 != 0) = true := by simpa using h8
            have HV2 : Hid (R = false) := Lib.hid (by rw [HV.out]; simp [cutJ, hz0, hz9, h8])
            clear HV
            go_wp2_with fail
            refine H8.out.mono ?_
            rintro e w2 ⟨rfl, rfl⟩
            go_wp2
            go_ret
            exact ⟨by rw [HV2.out]; rfl, hbz⟩
      · skip
        by_cases hz9 : z = 9
        · have z9 : (z == 9) = true := by rw [hz9]; rfl
          cases go with
          | true =>
            have HV2 : Hid (R = false) := Lib.hid (by rw [HV.out]; simp [cutJ, hz9])
            clear HV
            go_wp2_with fail
            refine H9.out.mono ?_
            rintro e w2 ⟨rfl, rfl⟩
            go_wp2
            go_ret
            exact ⟨by rw [HV2.out]; rfl, hbz⟩
          | false =>
            have HV2 : Hid (R = false) := Lib.hid (by rw [HV.out]; simp [cutJ, hz9])
            clear HV
            go_wp2_with fail
            refine H9.out.mono ?_
            rintro e w2 ⟨rfl, rfl⟩
            go_wp2
            go_ret
            exact ⟨by rw [HV2.out]; rfl, hbz⟩
        · have z9 : (z == 9) = false := beq_eq_false_iff_ne.2 hz9
          have HV2 : Hid (R = false) := Lib.hid (by rw [HV.out]; simp [cutJ, hz0, hz9])
          clear HV
          go_wp2
          go_ret
          exact ⟨by rw [HV2.out]; rfl, hbz⟩
      · skip
        have HV2 : Hid (R = false) := Lib.hid (by rw [HV.out]; simp [cutJ, hz0])
        clear HV
        go_wp2
        go_ret
        exact ⟨by rw [HV2.out]; rfl, hbz⟩
end Go.Proofs.YtdnkignhenkamaaGreatDoor

/- -/
namespace Go.Proofs.YtdnkignhenkamaaGreatDoor
open Go.RowKit Go.Maps
end Go.Proofs.YtdnkignhenkamaaGreatDoor

/- -/
namespace Go.Proofs.YtdnkignhenkamaaGreatDoor
open Go.RowKit Go.Maps
end Go.Proofs.YtdnkignhenkamaaGreatDoor

/- -/
namespace Go.Proofs.YtdnkignhenkamaaGreatDoor
open Go.RowKit Go.Maps
theorem blk_true {c : UInt8} (h : (c.toNat : Int) = 32 ∨ (c.toNat : Int) = 9) : blkB c = true := by
  have h1 : c = 32 ↔ c.toNat = 32 := u8_eq (n := 32) (by omega)
  have h2 : c = 9 ↔ c.toNat = 9 := u8_eq (n := 9) (by omega)
  simp only [blkB, Bool.or_eq_true, beq_iff_eq, h1, h2]; omega
theorem blk_false {c : UInt8} (h : ¬ ((c.toNat : Int) = 32 ∨ (c.toNat : Int) = 9)) : blkB c = false := by
  cases hb : blkB c with
  | false => rfl
  | true =>
    have h1 : c = 32 ↔ c.toNat = 32 := u8_eq (n := 32) (by omega)
    have h2 : c = 9 ↔ c.toNat = 9 := u8_eq (n := 9) (by omega)
    refine absurd ?_ h
    simp only [blkB, Bool.or_eq_true, beq_iff_eq, h1, h2] at hb; omega
theorem vblank_any (c : UInt8) (w : World) : Calls Tryz.prog 171 #[.int .u8 (c.toNat : Int)] w fun e w' => e = .returned (.bool (blkB c)) ∧ w = w' := by
  have HT := Lib.hid (@blk_true c)
  have HF := Lib.hid (@blk_false c)
  generalize (c.toNat : Int) = z at HT HF
  rcases (by omega : z = 32 ∨ z = 9 ∨ (z ≠ 32 ∧ z ≠ 9)) with h | h | ⟨h, h'⟩
  · have HV := Lib.hid (HT.out (.inl h))
    subst h
    go_enter Tryz.func171, Tryz.ntmps171
    go_wp2
    go_ret
    exact ⟨by rw [HV.out]; rfl, rfl⟩
  · have HV := Lib.hid (HT.out (.inr h))
    subst h
    go_enter Tryz.func171, Tryz.ntmps171
    go_wp2
    go_ret
    exact ⟨by rw [HV.out]; rfl, rfl⟩
  · have HV := Lib.hid (HF.out (by omega))
    have h1 : (z == 32) = false := beq_eq_false_iff_ne.2 h
    have h2 : (z == 9) = false := beq_eq_false_iff_ne.2 h'
    go_enter Tryz.func171, Tryz.ntmps171
    go_wp2
    go_ret
    exact ⟨by rw [HV.out]; rfl, rfl⟩
def strSize : Value → Nat
  | .string s => s.size
  | _ => 0
set_option maxRecDepth 100000 in
set_option maxHeartbeats 2000000 in
theorem vtrim_any (L : List UInt8) (w : World) (hL : L.length ≤ 1000000) : Calls Tryz.prog 134 #[.string (bytesOf L)] w fun e w' => e = .returned (.string (bytesOf (trimL L))) ∧ w = w' := by
  have HTE := Lib.hid (trimL_eq L)
  go_enter Tryz.func134, Tryz.ntmps134
  go_wp2
  go_loopw [0] (fun v wr => ∃ l : List UInt8, v = .string (bytesOf l) ∧ l.length ≤ L.length ∧ Hid (l.dropWhile blkB = L.dropWhile blkB) ∧ wr = w) (fun v _ => strSize v)
  case atStart => exact ⟨L, rfl, by omega, rfl, rfl⟩
  case round =>
    obtain ⟨l, rfl, hl, HD, rfl⟩ := hrel
    have hsz : (bytesOf l).size = l.length := bytesOf_size l
    by_cases hb : ∃ c r, l = c :: r ∧ blkB c = true
    · obtain ⟨c, r, rfl, hc⟩ := hb
      have h0 : 0 < (bytesOf (c :: r)).size := by rw [hsz]; simp
      have hix := index_at (bytesOf (c :: r)) 0 0 rfl h0
      have hg : (bytesOf (c :: r))[0]'h0 = c := by have := get_list h0; rw [bytesOf_list] at this; simpa using this.symm
      rw [hg] at hix
      have hgi : (((bytesOf (c :: r))[0]'h0).toNat : Int) = (c.toNat : Int) := by rw [hg]
      have HX := Lib.hid (ext_bytes (c :: r) 1)
      rw [hsz] at HX
      have hl2 : (r.length : Int) + 1 ≤ 1000000 := by simp at hl; omega
      clear hg
      go_wp2_with (go_at_call 171; refine (vblank_any c _).mono ?_; rw [hc]; rintro e w' ⟨rfl, rfl⟩)
      go_roundw
      case rel => exact ⟨r, by first | exact congrArg Value.string HX.out | (rw [← ext_bytes (c :: r) 1]; rfl), by simp at hl; omega, Lib.hid (by rw [← HD.out, drop_blank hc]), by first | rfl | trivial⟩
      case measure => simp only [strSize, ByteArray.size_extract, bytesOf_size, List.length_cons]; omega
    · have HLD : Hid (l = L.dropWhile blkB) := Lib.hid (by
        rw [← HD.out]
        cases l with
        | nil => rfl
        | cons c r =>
          have : blkB c = false := by
            cases hq : blkB c with
            | false => rfl
            | true => exact absurd ⟨c, r, rfl, hq⟩ hb
          exact (dropWhile_stop this).symm)
      have HTR : Hid (trimL L = trimR l) := Lib.hid (by rw [HTE.out, HLD.out])
      have hstop : l = [] ∨ ∃ c r, l = c :: r ∧ blkB c = false := by
        cases l with
        | nil => exact .inl rfl
        | cons c r =>
          refine .inr ⟨c, r, rfl, ?_⟩
          cases hq : blkB c with
          | false => rfl
          | true => exact absurd ⟨c, r, rfl, hq⟩ hb
      clear hb HD HLD
      rcases hstop with rfl | ⟨c, r, rfl, hc⟩
      · have HT0 : Hid (trimL L = []) := Lib.hid (by rw [HTR.out]; rfl)
        have hz0 : (bytesOf []).size = 0 := rfl
        go_wp2_with fail
        go_loopw [0] (fun v wq => v = .string (bytesOf []) ∧ wq = wr) (fun _ _ => 0)
        case atStart => exact ⟨rfl, rfl⟩
        case round =>
          obtain ⟨rfl, rfl⟩ := hrel
          go_wp2
          go_ret
          exact ⟨by rw [HT0.out]; rfl, rfl⟩
      · have h0 : 0 < (bytesOf (c :: r)).size := by rw [hsz]; simp
        have hix := index_at (bytesOf (c :: r)) 0 0 rfl h0
        have hg : (bytesOf (c :: r))[0]'h0 = c := by have := get_list h0; rw [bytesOf_list] at this; simpa using this.symm
        rw [hg] at hix
        have hgi : (((bytesOf (c :: r))[0]'h0).toNat : Int) = (c.toNat : Int) := by rw [hg]
        clear hg
        go_wp2_with (go_at_call 171; refine (vblank_any c _).mono ?_; rw [hc]; rintro e w' ⟨rfl, rfl⟩)
        go_loopw [0] (fun v wq => ∃ l : List UInt8, v = .string (bytesOf l) ∧ l.length ≤ L.length ∧ Hid (trimR l = trimL L) ∧ wq = wr) (fun v _ => strSize v)
        case atStart => exact ⟨c :: r, rfl, hl, Lib.hid HTR.out.symm, rfl⟩
        case round =>
          clear hix hgi h0
          obtain ⟨l, rfl, hl2, HD, rfl⟩ := hrel
          have hsz2 : (bytesOf l).size = l.length := bytesOf_size l
          rcases List.eq_nil_or_concat l with rfl | ⟨o, y, rfl⟩
          · have HT0 : Hid (trimL L = []) := Lib.hid (by rw [← HD.out]; rfl)
            have hz0 : (bytesOf []).size = 0 := rfl
            go_wp2
            go_ret
            exact ⟨by rw [HT0.out]; rfl, rfl⟩
          · rw [List.concat_eq_append] at *
            have hlast : (o ++ [y]).getLast? = some y := by simp
            have hol : (o ++ [y]).length = o.length + 1 := by simp
            rw [hol] at hsz2 hl2
            have hp : o.length < (bytesOf (o ++ [y])).size := by omega
            have hix := index_at (bytesOf (o ++ [y])) ((o.length : Int) + 1 - 1) o.length (by omega) hp
            have hix2 := index_at (bytesOf (o ++ [y])) (o.length : Int) o.length rfl hp
            have hg : (bytesOf (o ++ [y]))[o.length]'hp = y := by have := get_list hp; rw [bytesOf_list] at this; simpa using this.symm
            rw [hg] at hix hix2
            have hgi : (((bytesOf (o ++ [y]))[o.length]'hp).toNat : Int) = (y.toNat : Int) := by rw [hg]
            clear hg
            cases hy : blkB y with
            | true =>
              have HX : Hid ((bytesOf (o ++ [y])).extract 0 o.length = bytesOf o) := Lib.hid (by rw [ext_bytes0]; simp)
              have HD' : Hid (trimR o = trimL L) := Lib.hid (by rw [← HD.out, (trim_last hlast).1 hy, hol, Nat.add_sub_cancel]; simp)
              go_wp2_with (go_at_call 171; refine (vblank_any y _).mono ?_; rw [hy]; rintro e w' ⟨rfl, rfl⟩)
              go_roundw
              case rel => exact ⟨o, congrArg Value.string HX.out, by omega, HD', by first | rfl | trivial⟩
              case measure => simp only [strSize, ByteArray.size_extract, bytesOf_size, List.length_append, List.length_singleton]; omega
            | false =>
              have HD' : Hid (trimL L = o ++ [y]) := Lib.hid (by rw [← HD.out, (trim_last hlast).2 hy])
              go_wp2_with (go_at_call 171; refine (vblank_any y _).mono ?_; rw [hy]; rintro e w' ⟨rfl, rfl⟩)
              go_ret
              exact ⟨by rw [HD'.out]; rfl, rfl⟩
end Go.Proofs.YtdnkignhenkamaaGreatDoor

/- -/
namespace Go.Proofs.YtdnkignhenkamaaGreatDoor
open Go.RowKit Go.Maps
theorem Rd.atS {w : World} {A : Option Addr} {l : List (List UInt8)} {k : Nat} {x : List UInt8} (h : Rd w 1 A (l.map encNm)) (hk : l[k]? = some x) : ∃ b off, A = some ⟨b, off, none⟩ ∧ w.cell? ⟨b, off + k, none⟩ = some (.string (bytesOf x)) := by
  obtain ⟨b, off, rfl, hc⟩ := h (by intro e; cases l with | nil => simp at hk | cons _ _ => simp at e)
  have h0 := hc k 0 (encNm x) (.string (bytesOf x)) (by simp [hk]) rfl
  exact ⟨b, off, rfl, by simpa using h0⟩
end Go.Proofs.YtdnkignhenkamaaGreatDoor

/- -/
namespace Go.Proofs.YtdnkignhenkamaaGreatDoor
open Go.RowKit Go.Maps
structure RfX (w : World) (base p x : Nat) (An : Option Addr) (nn cn : Nat) (As : Option Addr) (ns cs : Nat) (xs : List (Option Addr × Nat × Nat)) (N : List (List UInt8)) (S : List (List (Int × Int))) : Prop where
  blk : Blk w p 72 #[.slice An nn cn, .slice As ns cs]
  pb : base ≤ p
  hn : Own w base 9 1 An nn cn (N.map encNm)
  hs : Own w base 74 1 As ns cs (xs.map encSl)
  hx : Sets w base xs S
  xp : x ≠ p
  xn : ∀ a, An = some a → a.block ≠ x
  xs_ : ∀ a, As = some a → a.block ≠ x
structure RfB (w : World) (base p x : Nat) (N : List (List UInt8)) (S : List (List (Int × Int))) : Prop where
  ex : ∃ (An : Option Addr) (nn cn : Nat) (As : Option Addr) (ns cs : Nat) (xs : List (Option Addr × Nat × Nat)), RfX w base p x An nn cn As ns cs xs N S
section
variable {w w' : World} {base p x : Nat} {An : Option Addr} {nn cn : Nat} {As : Option Addr} {ns cs : Nat} {xs : List (Option Addr × Nat × Nat)} {N : List (List UInt8)} {S : List (List (Int × Int))}
theorem RfX.below (h : RfX w base p x An nn cn As ns cs xs N S) (hb : Below w.heap.size w w') : RfX w' base p x An nn cn As ns cs xs N S := ⟨h.blk.below hb, h.pb, h.hn.below hb, h.hs.below hb, h.hx.below hb, h.xp, h.xn, h.xs_⟩
theorem RfB.below (h : RfB w base p x N S) (hb : Below w.heap.size w w') : RfB w' base p x N S := by
  obtain ⟨a1, a2, a3, a4, a5, a6, a7, h⟩ := h.ex
  exact ⟨a1, a2, a3, a4, a5, a6, a7, h.below hb⟩
theorem RfX.lenN (h : RfX w base p x An nn cn As ns cs xs N S) : N.length = nn := by simpa using h.hn.len
theorem RfX.lenS (h : RfX w base p x An nn cn As ns cs xs N S) : xs.length = ns ∧ S.length = ns := by
  have := h.hs.len; rw [List.length_map] at this
  exact ⟨this, by rw [← h.hx.len]; exact this⟩
theorem types_rf : (9 : TypeId) ≠ 74 ∧ (9 : TypeId) ≠ 72 ∧ (74 : TypeId) ≠ 72 ∧ (9 : TypeId) ≠ 110 ∧ (74 : TypeId) ≠ 110 ∧ (72 : TypeId) ≠ 110 := by decide
theorem RfX.named {w3 : World} {o : Obj} {n : List UInt8} {A3 : Option Addr} {c3 : Nat} (h : RfX w base p x An nn cn As ns cs xs N S) (ho3 : Own w3 base 9 1 A3 (nn + 1) c3 ((N ++ [n]).map encNm))
    (hg3 : (w.alloc o).grownBy w3 (An.map (·.block))) (hA3 : A3 = An ∨ A3 = some ⟨(w.alloc o).heap.size, 0, none⟩) (hx : x < w.heap.size) (hB : base ≤ w.heap.size) :
    Blk w3 p 72 #[.slice An nn cn, .slice As ns cs] ∧ RfX (w3.setCell ⟨p, 0, none⟩ (.slice A3 (nn + 1) c3)) base p x A3 (nn + 1) c3 As ns cs xs (N ++ [n]) S ∧
      KX base x w (w3.setCell ⟨p, 0, none⟩ (.slice A3 (nn + 1) c3)) ∧ KeepR base w (w3.setCell ⟨p, 0, none⟩ (.slice A3 (nn + 1) c3)) := by
  obtain ⟨t1, t2, t3, t4, t5, t6⟩ := types_rf
  have hg := grown_alloc hg3
  have b3 : Blk w3 p 72 #[.slice An nn cn, .slice As ns cs] := h.blk.grown hg (fun e => by cases An with | none => cases e | some a => simp at e; exact h.hn.off h.blk t2 a rfl e.symm)
  have s3 : Own w3 base 74 1 As ns cs (xs.map encSl) := h.hs.grown hg (fun a ha e => by cases An with | none => cases e | some b => simp at e; exact h.hn.apart h.hs t1 b a rfl ha e.symm)
  have x3 : Sets w3 base xs S := h.hx.grown hg (fun g q e => own_not_R h.hn t4 g q e)
  have hxA3 : ∀ a, A3 = some a → a.block ≠ x := fun a ha => by
    rcases hA3 with e | e
    · exact h.xn a (by rw [← e]; exact ha)
    · rw [e] at ha; injection ha with ha; subst ha; simp; omega
  refine ⟨b3, ⟨?_, h.pb, ?_, ?_, ?_, h.xp, hxA3, h.xs_⟩, ?_, ?_⟩
  · have := b3.set_ 0 (.slice A3 (nn + 1) c3)
    simpa using this
  · exact ho3.setCell (fun a ha => ho3.off b3 t2 a ha) _
  · exact s3.setCell (fun a ha => s3.off b3 t3 a ha) _
  · exact x3.setCell (blk_not_R b3 t6) _
  · refine (KX.grown hg hB (fun k hk => ?_)).trans (KX.setCell w3 h.pb (fun e => h.xp e.symm) _)
    cases An with
    | none => cases hk
    | some a => simp at hk; subst hk; exact ⟨(h.hn.lt a rfl).1, h.xn a rfl⟩
  · exact (KeepR.grown hg (fun g q e => own_not_R h.hn t4 g q e)).trans (KeepR.setCell (blk_not_R b3 t6) _)
theorem RfX.moreSet {w3 : World} {o : Obj} {A3 : Option Addr} {c3 : Nat} (h : RfX w base p x An nn cn As ns cs xs N S) (ho3 : Own w3 base 74 1 A3 (ns + 1) c3 ((xs ++ [(none, 0, 0)]).map encSl))
    (hg3 : (w.alloc o).grownBy w3 (As.map (·.block))) (hA3 : A3 = As ∨ A3 = some ⟨(w.alloc o).heap.size, 0, none⟩) (hx : x < w.heap.size) (hB : base ≤ w.heap.size) :
    Blk w3 p 72 #[.slice An nn cn, .slice As ns cs] ∧ RfX (w3.setCell ⟨p, 1, none⟩ (.slice A3 (ns + 1) c3)) base p x An nn cn A3 (ns + 1) c3 (xs ++ [(none, 0, 0)]) N (S ++ [[]]) ∧
      KX base x w (w3.setCell ⟨p, 1, none⟩ (.slice A3 (ns + 1) c3)) ∧ KeepR base w (w3.setCell ⟨p, 1, none⟩ (.slice A3 (ns + 1) c3)) := by
  obtain ⟨t1, t2, t3, t4, t5, t6⟩ := types_rf
  have hg := grown_alloc hg3
  have b3 : Blk w3 p 72 #[.slice An nn cn, .slice As ns cs] := h.blk.grown hg (fun e => by cases As with | none => cases e | some a => simp at e; exact h.hs.off h.blk t3 a rfl e.symm)
  have n3 : Own w3 base 9 1 An nn cn (N.map encNm) := h.hn.grown hg (fun a ha e => by cases As with | none => cases e | some b => simp at e; exact h.hn.apart h.hs t1 a b ha rfl e)
  have x3 : Sets w3 base xs S := h.hx.grown hg (fun g q e => own_not_R h.hs t5 g q e)
  have hxA3 : ∀ a, A3 = some a → a.block ≠ x := fun a ha => by
    rcases hA3 with e | e
    · exact h.xs_ a (by rw [← e]; exact ha)
    · rw [e] at ha; injection ha with ha; subst ha; simp; omega
  refine ⟨b3, ⟨?_, h.pb, ?_, ?_, ?_, h.xp, h.xn, hxA3⟩, ?_, ?_⟩
  · have := b3.set_ 1 (.slice A3 (ns + 1) c3)
    simpa using this
  · exact n3.setCell (fun a ha => n3.off b3 t2 a ha) _
  · exact ho3.setCell (fun a ha => ho3.off b3 t3 a ha) _
  · exact (x3.setCell (blk_not_R b3 t6) _).snoc (Own.nil_ _ _ _ _)
  · refine (KX.grown hg hB (fun k hk => ?_)).trans (KX.setCell w3 h.pb (fun e => h.xp e.symm) _)
    cases As with
    | none => cases hk
    | some a => simp at hk; subst hk; exact ⟨(h.hs.lt a rfl).1, h.xs_ a rfl⟩
  · exact (KeepR.grown hg (fun g q e => own_not_R h.hs t5 g q e)).trans (KeepR.setCell (blk_not_R b3 t6) _)
theorem RfX.storeSet {g k b' : Nat} {y : Option Addr × Nat × Nat} {l : List (Int × Int)} (h : RfX w base p x An nn cn (some ⟨g, 0, none⟩) ns cs xs N S) (hk : k < ns) (ho : Own w b' 110 2 y.1 y.2.1 y.2.2 (l.map encR)) (hb : base ≤ b') :
    RfX (w.setCell ⟨g, k, none⟩ (.slice y.1 y.2.1 y.2.2)) base p x An nn cn (some ⟨g, 0, none⟩) ns cs (xs.set k y) N (S.set k l) ∧ KX base x w (w.setCell ⟨g, k, none⟩ (.slice y.1 y.2.1 y.2.2)) := by
  obtain ⟨t1, t2, t3, t4, t5, t6⟩ := types_rf
  have hgp : g ≠ p := h.hs.off h.blk t3 _ rfl
  refine ⟨⟨h.blk.far (p := ⟨g, k, none⟩) (Ne.symm hgp) _, h.pb, ?_, ?_, ?_, h.xp, h.xn, h.xs_⟩, KX.setCell w (q := ⟨g, k, none⟩) (h.hs.lt _ rfl).1 (h.xs_ ⟨g, 0, none⟩ rfl) _⟩
  · exact h.hn.setCell (p := ⟨g, k, none⟩) (fun a ha e => h.hn.apart h.hs t1 a ⟨g, 0, none⟩ ha rfl e) _
  · exact h.hs.storedSl (by rw [h.lenS.1]; exact hk) y
  · refine Sets.set_ (h.hx.setCell (q := ⟨g, k, none⟩) (fun r => own_not_R h.hs t5 g r rfl) _) ?_
    exact (ho.setCell (p := ⟨g, k, none⟩) (fun a ha e => ho.apart h.hs (Ne.symm t5) a ⟨g, 0, none⟩ ha rfl e) _).more hb
end
theorem bytes_inj {a b : List UInt8} : bytesOf a = bytesOf b ↔ a = b := ⟨fun h => by rw [← bytesOf_list a, ← bytesOf_list b, h], fun h => by rw [h]⟩
theorem idx_step {N : List (List UInt8)} {n y : List UInt8} {i : Nat} (h : n ∉ N.take i) (hy : N[i]? = some y) : (y = n → N.idxOf? n = some i) ∧ (y ≠ n → n ∉ N.take (i + 1)) := by
  constructor
  · rintro rfl
    rw [List.idxOf?, List.findIdx?_eq_some_iff_getElem]
    obtain ⟨hlt, e⟩ := List.getElem?_eq_some_iff.1 hy
    refine ⟨hlt, by simp [e], fun j hj => ?_⟩
    simp only [Bool.not_eq_true, beq_eq_false_iff_ne]
    intro hjy
    exact h (List.mem_take_iff_getElem.2 ⟨j, by omega, by simpa using hjy⟩)
  · intro hne hm
    rw [List.take_add_one, hy] at hm
    simp at hm
    rcases hm with hm | hm
    · exact h hm
    · exact hne hm.symm
theorem idx_none {N : List (List UInt8)} {n : List UInt8} (h : n ∉ N) : N.idxOf? n = none := by
  rw [List.idxOf?, List.findIdx?_eq_none_iff]
  intro x hx
  simp only [beq_eq_false_iff_ne]
  rintro rfl; exact h hx
set_option maxRecDepth 100000 in
set_option maxHeartbeats 1000000 in
theorem vClass_any (base p x : Nat) (N : List (List UInt8)) (S : List (List (Int × Int))) (n : List UInt8) (w : World) (h : RfB w base p x N S) (hN : N.length ≤ 1000000) :
    Calls Tryz.prog 138 #[.pointer (some ⟨p, 0, none⟩), .string (bytesOf n)] w fun e w' => e = .returned (.tuple #[.int .i64 (((N.idxOf? n).getD 0 : Nat) : Int), .bool (N.idxOf? n).isSome]) ∧ w = w' := by
  obtain ⟨An, nn, cn, As, ns, cs, xs, hX⟩ := h.ex
  have hl := hX.lenN
  have Hl := Lib.hid hl
  have hrd := hX.hn.rd (by omega)
  have c0 := hX.blk.cell 0
  simp only [List.getElem?_toArray, List.getElem?_cons_zero] at c0
  have hnn : nn ≤ 1000000 := by omega
  clear hl h
  go_enter Tryz.func138, Tryz.ntmps138
  go_wp2
  go_loopw [6] (fun v wr => ∃ i : Nat, v = .int .i64 i ∧ i ≤ nn ∧ Hid (n ∉ N.take i) ∧ wr = w) (fun v _ => nn - (intOf v).toNat)
  case atStart => exact ⟨0, rfl, by omega, by simp [Hid], rfl⟩
  case round =>
    obtain ⟨i, rfl, hi, HN, rfl⟩ := hrel
    by_cases hlt : i < nn
    · obtain ⟨y, Hy⟩ : ∃ y, Hid (N[i]? = some y) := ⟨_, Lib.hid (List.getElem?_eq_getElem (show i < N.length by have := Hl.out; omega))⟩
      obtain ⟨b, off, rfl, hc⟩ := hrd.atS Hy.out
      have HI := Lib.hid (idx_step HN.out Hy.out)
      by_cases hyn : y = n
      · have HE := Lib.hid (HI.out.1 hyn)
        subst hyn
        go_wp2
        go_ret2
        exact ⟨by rw [HE.out]; rfl, rfl⟩
      · have HE := Lib.hid (HI.out.2 hyn)
        have e1 : ((bytesOf y).toList == (bytesOf n).toList) = false := by rw [ByteArray.toList_eq, ByteArray.toList_eq, bytesOf_list, bytesOf_list]; exact beq_eq_false_iff_ne.2 hyn
        have e3 : decide (bytesOf y = bytesOf n) = false := decide_eq_false (fun k => hyn (bytes_inj.1 k))
        clear hyn
        go_wp2
        go_roundw
        case rel => exact ⟨i + 1, by go_num, by omega, HE, by first | rfl | trivial⟩
        case measure => simp [intOf]; omega
    · have HE := Lib.hid (idx_none (N := N) (n := n) (by have := HN.out; rwa [List.take_of_length_le (by have := Hl.out; omega)] at this))
      go_wp2
      go_ret2
      exact ⟨by rw [HE.out]; rfl, rfl⟩
end Go.Proofs.YtdnkignhenkamaaGreatDoor

/- -/
namespace Go.Proofs.YtdnkignhenkamaaGreatDoor
open Go.RowKit
theorem run_split {s : ByteArray} {a x : Nat} {q : UInt8 → Bool} (hax : a ≤ x) (hx : x ≤ s.size) (h : (s.data.toList.drop a).takeWhile q = (s.data.toList.drop a).take (x - a) ++ (s.data.toList.drop x).takeWhile q) (hd : (s.data.toList.drop a).dropWhile q = (s.data.toList.drop x).dropWhile q)
    (hstop : ∀ b, (s.data.toList.drop x).head? = some b → q b = false) : (s.data.toList.drop a).takeWhile q = (s.extract a x).data.toList ∧ (s.data.toList.drop a).dropWhile q = s.data.toList.drop x ∧ ((s.data.toList.drop a).takeWhile q).length = x - a := by
  have e0 : (s.data.toList.drop x).takeWhile q = [] := by
    cases hl : s.data.toList.drop x with
    | nil => rfl
    | cons b l => rw [List.takeWhile_cons, if_neg (by rw [hstop b (by rw [hl]; rfl)]; simp)]
  have e1 : (s.data.toList.drop x).dropWhile q = s.data.toList.drop x := by
    cases hl : s.data.toList.drop x with
    | nil => rfl
    | cons b l => rw [List.dropWhile_cons, if_neg (by rw [hstop b (by rw [hl]; rfl)]; simp)]
  have e2 : (s.extract a x).data.toList = (s.data.toList.drop a).take (x - a) := by
    rw [ByteArray.data_extract, Array.toList_extract, List.extract_eq_take_drop]
  rw [e0, List.append_nil] at h
  refine ⟨by rw [h, e2], by rw [hd, e1], ?_⟩
  rw [h, List.length_take, List.length_drop, size_data]
  omega
theorem take_step (s : ByteArray) {a x : Nat} {b : UInt8} (hax : a ≤ x) (hd : s.data.toList.drop x = b :: s.data.toList.drop (x + 1)) : (s.data.toList.drop a).take (x + 1 - a) = (s.data.toList.drop a).take (x - a) ++ [b] := by
  have h1 : (s.data.toList.drop a)[x - a]? = some b := by
    rw [List.getElem?_drop, show a + (x - a) = x by omega]
    have := congrArg List.head? hd
    rw [List.head?_drop] at this
    exact this
  rw [show x + 1 - a = x - a + 1 by omega, List.take_add_one, h1]; rfl
set_option maxRecDepth 100000 in
set_option maxHeartbeats 8000000 in
theorem jname_any (p : Nat) (s : ByteArray) (A : Option Addr) (nn cn : Nat) (names : List (List UInt8)) (a d k i0 : Nat) (rest : List UInt8) (w : World) (h : RS w p s A nn cn names a d k) (ha : a ≤ s.size) (hs : s.size ≤ 1000000) (hnz : nn ≤ 1000000) (hP : pName names (s.data.toList.drop a) = some (i0, rest)) :
    Calls Tryz.prog 261 #[.pointer (some ⟨p, 0, none⟩)] w fun e w' => e = .returned (.int .i64 (i0 : Nat)) ∧ ∃ x, RS w' p s A nn cn names x d k ∧ s.data.toList.drop x = rest ∧ x ≤ s.size ∧ w.grownBy w' (some p) := by
  have HP := Lib.hid hP
  have c0 := h.c0
  have c1 := h.c1
  clear hP
  go_enter Tryz.func261, Tryz.ntmps261
  go_wp2_with fail
  go_loopw [10] (fun _ wr => ∃ x : Nat, RS wr p s A nn cn names x d k ∧ a ≤ x ∧ x ≤ s.size ∧ Hid ((s.data.toList.drop a).takeWhile pPart = (s.data.toList.drop a).take (x - a) ++ (s.data.toList.drop x).takeWhile pPart) ∧ Hid ((s.data.toList.drop a).dropWhile pPart = (s.data.toList.drop x).dropWhile pPart) ∧ w.grownBy wr (some p)) (fun _ wr => s.size - atOf wr p)
  case atStart => exact ⟨a, h, by omega, ha, Lib.hid (by rw [Nat.sub_self]; rfl), Lib.hid rfl, only_refl _ _⟩
  case round =>
    clear h c0 c1
    obtain ⟨x, hr, hax, hx, HT, HD, hg⟩ := hrel
    have c0 := hr.c0
    have c1 := hr.c1
    have c2 := hr.c2
    have f1 := hr.f 1
    have Hat := Lib.hid hr.atOf
    by_cases hlt : x < s.size ∧ ∃ b, (s.data.toList.drop x).head? = some b ∧ pPart b = true
    · obtain ⟨hlt, b', hb', hpb⟩ := hlt
      obtain ⟨b, hd, hidx⟩ := byte_at s hlt
      replace hpb : pPart b = true := by
        rw [hd] at hb'
        injection hb' with hb'
        rw [hb']
        exact hpb
      have HJ := Lib.hid (fun q => jpart_b b (wr.drewN q))
      rw [hpb] at HJ
      have HT2 := Lib.hid (show (s.data.toList.drop a).takeWhile pPart = (s.data.toList.drop a).take (x + 1 - a) ++ (s.data.toList.drop (x + 1)).takeWhile pPart by
        rw [HT.out, hd, List.takeWhile_cons, if_pos hpb, take_step s hax hd, List.append_assoc]; rfl)
      have HD2 := Lib.hid (show (s.data.toList.drop a).dropWhile pPart = (s.data.toList.drop (x + 1)).dropWhile pPart by
        rw [HD.out, hd, List.dropWhile_cons, if_pos hpb])
      clear hd hb'
      go_wp2_with fail
      go_quiet ((go_at_call 174; exact quiet_left (HJ.out _)))
      go_wp2
      have hr2 := (hr.drewN nq).setAt (x + 1)
      have ez : ((x + 1 : Nat) : Int) = (x : Int) + 1 := by omega
      rw [ez] at hr2
      refine ⟨⟨x + 1, hr2, by omega, by omega, HT2, HD2, only_setCell (only_drewN hg _) (.inl rfl) _⟩, ?_⟩
      rw [hr2.atOf, Hat.out]; omega
    · have hstop : ∀ b, (s.data.toList.drop x).head? = some b → pPart b = false := fun b hb => by
        by_cases h1 : x < s.size
        · cases hq : pPart b with
          | false => rfl
          | true => exact absurd ⟨h1, b, hb, hq⟩ hlt
        · rw [drop_end s h1] at hb; cases hb
      obtain ⟨k1, k2, k3⟩ := run_split hax hx HT.out HD.out hstop
      obtain ⟨sub, hsub⟩ : ∃ sub, s.extract a x = sub := ⟨_, rfl⟩
      rw [hsub] at k1
      have HPn : Hid (x - a ≤ 32 ∧ names.findIdx? (fun y => y == sub.data.toList) = some i0 ∧ rest = s.data.toList.drop x) := Lib.hid (by
        have h1 := HP.out
        unfold pName at h1
        rw [k3, k1, k2] at h1
        split at h1
        · cases h1
        · rename_i h32
          split at h1
          · cases h1
          · rename_i j hj
            injection h1 with h1
            injection h1 with h1 h2
            exact ⟨by omega, by rw [hj, h1], h2.symm⟩)
      have HSz := Lib.hid (show sub.size = x - a by rw [← hsub, ByteArray.size_extract]; omega)
      have HQ : Hid ((¬ x < s.size) ∨ (∃ (hlt : x < s.size) (b : UInt8), s.data.toList.drop x = b :: s.data.toList.drop (x + 1) ∧ (∀ W, (Instr.index 9 (.string s) (.int .i64 (x : Nat))).run Tryz.prog W = .ok (.int .u8 (b.toNat : Int)) W) ∧ pPart b = false)) := Lib.hid (by
        by_cases h1 : x < s.size
        · obtain ⟨b, hb1, hb2⟩ := byte_at s h1
          exact .inr ⟨h1, b, hb1, hb2, hstop b (by rw [hb1]; rfl)⟩
        · exact .inl h1)
      clear hlt hstop k1 k2 k3 HP HT HD
      have hax' : (a : Int) ≤ (x : Int) := by omega
      have hxs' : (x : Int) ≤ (s.size : Int) := by omega
      have hxa0 : ¬ x < a := by omega
      go_upto_region 2 with fail
      go_cut [31] from 10 to 30 (fun v wx => v = .bool false ∧ ∃ q, wx = wr.drewN q)
      case first =>
        rcases HQ.out with h1 | ⟨h1, b, hb1, hidx, hpb⟩
        · go_quiet (fail)
          go_wp2_with fail
          go_meet
          exact ⟨rfl, nq, rfl⟩
        · have HJ := Lib.hid (fun q => jpart_b b (wr.drewN q))
          rw [hpb] at HJ
          go_quiet ((go_at_call 174; exact quiet_left (HJ.out _)))
          go_wp2_with fail
          go_meet
          exact ⟨rfl, nq, rfl⟩
      case rest =>
        obtain ⟨rfl, q, rfl⟩ := hcut
        have hr2 := hr.drewN q
        have hg2 := only_drewN hg q
        have d0 := hr2.c0
        have d1 := hr2.c1
        have d2 := hr2.c2
        clear hr hg c0 c1 c2 f1 HQ
        generalize wr.drewN q = w3 at hr2 hg2 d0 d1 d2 ⊢
        go_wp2_with fail
        go_quiet (fail)
        have hsz32 : ¬ (32 : Int) < (sub.size : Int) := by have := HSz.out; have := HPn.out.1; omega
        have hr3 := hr2.drewN nq
        have hg3 := only_drewN hg2 nq
        have x0 := hr3.c0
        have x2 := hr3.c2
        clear hr2 hg2 d0 d1 d2 hsub
        generalize w3.drewN nq = w4 at hr3 hg3 x0 x2 ⊢
        have Hl := Lib.hid hr3.len
        have hrd := hr3.nm
        go_wp2_with fail
        go_loopw [5] (fun v wq => ∃ i : Nat, v = .int .i64 i ∧ i ≤ i0 ∧ wq = w4) (fun v _ => nn - (intOf v).toNat)
        case atStart => exact ⟨0, rfl, by omega, rfl⟩
        case round =>
          obtain ⟨i, rfl, hi, rfl⟩ := hrel
          have HF := Lib.hid (List.findIdx?_eq_some_iff_getElem.1 HPn.out.2.1)
          have hi0n : i0 < nn := by
            obtain ⟨h1, _⟩ := HF.out
            have := Hl.out
            omega
          have hin : i < nn := by omega
          obtain ⟨y, Hy⟩ : ∃ y, Hid (names[i]? = some y) := ⟨_, Lib.hid (List.getElem?_eq_getElem (show i < names.length by have := Hl.out; omega))⟩
          obtain ⟨b, off, rfl, hc⟩ := hrd.atS Hy.out
          by_cases hlt : i < i0
          · have hyn : y ≠ sub.data.toList := fun e => by
              obtain ⟨h1, h2, h3⟩ := HF.out
              have h4 := h3 i hlt
              obtain ⟨h5, h6⟩ := List.getElem?_eq_some_iff.1 Hy.out
              rw [h6, e] at h4
              simp at h4
            have e1 : ((bytesOf y).toList == sub.toList) = false := by rw [ByteArray.toList_eq, ByteArray.toList_eq, bytesOf_list]; exact beq_eq_false_iff_ne.2 hyn
            have e3 : decide (bytesOf y = sub) = false := decide_eq_false (fun k => hyn (by rw [← k, bytesOf_list]))
            clear hyn
            go_wp2
            go_roundw
            case rel => exact ⟨i + 1, by go_num, by omega, by first | rfl | trivial⟩
            case measure => simp [intOf]; omega
          · obtain rfl : i = i0 := by omega
            have hyn : bytesOf y = sub := by
              obtain ⟨h1, h2, h3⟩ := HF.out
              obtain ⟨h5, h6⟩ := List.getElem?_eq_some_iff.1 Hy.out
              rw [h6] at h2
              have h7 : y = sub.data.toList := by simpa using h2
              rw [h7, bytesOf_data]
            have e1 : ((bytesOf y).toList == sub.toList) = true := by rw [hyn]; simp
            have e3 : decide (bytesOf y = sub) = true := decide_eq_true hyn
            clear hyn hlt
            go_wp2
            go_ret
            exact ⟨rfl, x, hr3, HPn.out.2.2.symm, hx, hg3⟩
end Go.Proofs.YtdnkignhenkamaaGreatDoor

/- -/
namespace Go.Proofs.YtdnkignhenkamaaGreatDoor
open Go.RowKit
def PCell (w : World) (b : Nat) (v : Pv) : Prop := w.cell? ⟨b, 0, none⟩ = some (.int .i64 (v.1 : Int)) ∧ w.cell? ⟨b, 1, none⟩ = some (.slice v.2.1.1 v.2.1.2.1 v.2.1.2.2) ∧ w.cell? ⟨b, 2, none⟩ = some (.slice v.2.2.1 v.2.2.2.1 v.2.2.2.2)
theorem PCell.of_blk {w : World} {b : Nat} {v : Pv} (h : Blk w b 126 #[.int .i64 (v.1 : Int), .slice v.2.1.1 v.2.1.2.1 v.2.1.2.2, .slice v.2.2.1 v.2.2.2.1 v.2.2.2.2]) : PCell w b v := ⟨h.cell 0, h.cell 1, h.cell 2⟩
set_option maxRecDepth 100000 in
theorem res_one (w : World) (b : Nat) (v : Pv) (tmps : Array Value) (ht : tmps.getD 2 undef = .pointer (some ⟨b, 0, none⟩)) (hc : PCell w b v) : (results Tryz.f260 tmps).run Tryz.prog w = .ok (valPt v) w := by
  have ht' : tmps[2]?.getD undef = .pointer (some ⟨b, 0, none⟩) := by simpa [Array.getD_eq_getD_getElem?] using ht
  obtain ⟨h0, h1, h2⟩ := hc
  simp [results, Tryz.results260, go_sem, ht', h0, h1, h2, valPt]
set_option maxRecDepth 100000 in
set_option maxHeartbeats 1000000 in
theorem jone_any (c : Nat) (w : World) : Calls Tryz.prog 260 #[.int .i64 (c : Nat)] w fun e w' => ∃ v, e = .returned (valPt v) ∧ PatX w' (fun b => w.heap.size ≤ b) (.node 1 [c] []) v ∧ Below w.heap.size w w' := by
  go_enter Tryz.func260, Tryz.ntmps260
  go_wp2
  have hbl : Blk ((w.alloc (.cells #[.int .i64 1, .slice (some ⟨w.heap.size + 1, 0, none⟩) 1 1, .slice none 0 0] 126)).alloc (.cells #[.int .i64 (c : Int)] 3)) w.heap.size 126 #[.int .i64 1, .slice (some ⟨w.heap.size + 1, 0, none⟩) 1 1, .slice none 0 0] := (Blk.new _ _ _).alloc _
  refine bodyPost_ret (res_one _ w.heap.size (1, (some ⟨w.heap.size + 1, 0, none⟩, 1, 1), (none, 0, 0)) _ rfl (PCell.of_blk hbl)) rfl ?_
  refine ⟨_, rfl, ?_, ?_⟩
  · simp only [PatX]
    refine ⟨trivial, ⟨Rd.newAt (x := encN c) (by simp) rfl, rfl, fun a ha => ?_⟩, [], SlX.nil_ _ _ _, by simp only [PatsX]⟩
    injection ha with ha
    subst ha
    simp
  · exact ((Below.refl _ _).alloc (Nat.le_refl _) _).alloc (by simp) _
def pickB (M : List Bool) (no : Bool) (i : Nat) : List Nat := (List.range i).filter fun j => M.getD j false != no
theorem pickB_next (M : List Bool) (no : Bool) (i : Nat) : pickB M no (i + 1) = pickB M no i ++ (if M.getD i false != no then [i] else []) := by
  unfold pickB
  rw [List.range_succ, List.filter_append]
  congr 1
  cases h : (M.getD i false != no) with
  | true => rw [List.filter_cons_of_pos (p := fun j => M.getD j false != no) h]; rfl
  | false => rw [List.filter_cons_of_neg (p := fun j => M.getD j false != no) (by rw [h]; decide)]; rfl
def encBo (x : Bool) : List Value := [.bool x]
theorem Rd.atBo {w : World} {A : Option Addr} {l : List Bool} {k : Nat} {x : Bool} (h : Rd w 1 A (l.map encBo)) (hk : l[k]? = some x) : ∃ b off, A = some ⟨b, off, none⟩ ∧ w.cell? ⟨b, off + k, none⟩ = some (.bool x) := by
  obtain ⟨b, off, rfl, hc⟩ := h (by intro e; cases l with | nil => simp at hk | cons _ _ => simp at e)
  have h0 := hc k 0 (encBo x) (.bool x) (by simp [hk]) rfl
  exact ⟨b, off, rfl, by simpa using h0⟩
set_option maxRecDepth 100000 in
theorem res_from (w : World) (b : Nat) (v : Pv) (tmps : Array Value) (ht : tmps.getD 6 undef = .pointer (some ⟨b, 0, none⟩)) (hc : PCell w b v) : (results Tryz.f259 tmps).run Tryz.prog w = .ok (valPt v) w := by
  have ht' : tmps[6]?.getD undef = .pointer (some ⟨b, 0, none⟩) := by simpa [Array.getD_eq_getD_getElem?] using ht
  obtain ⟨h0, h1, h2⟩ := hc
  simp [results, Tryz.results259, go_sem, ht', h0, h1, h2, valPt]
set_option maxRecDepth 100000 in
set_option maxHeartbeats 4000000 in
theorem jfrom_any (n : Nat) (A : Option Addr) (m c : Nat) (M : List Bool) (no : Bool) (w : World) (hA : Rd w 1 A (M.map encBo)) (hm : M.length = n) (hmm : m = n) (hn : n ≤ 1000000) :
    Calls Tryz.prog 259 #[.int .i64 (n : Nat), .slice A m c, .bool no] w fun e w' => ∃ v, e = .returned (valPt v) ∧ PatX w' (fun b => w.heap.size ≤ b) (.node 1 (pickB M no n) []) v ∧ Below w.heap.size w w' := by
  obtain ⟨i0, hi0, hz0, hz1, hz2⟩ := info_parts infoInt
  subst hmm
  have Hm := Lib.hid hm
  clear hm
  go_enter Tryz.func259, Tryz.ntmps259
  go_wp2
  have hS1 : Blk ((w.alloc (.cells #[.int .i64 0, .slice none 0 0, .slice none 0 0] 126)).alloc (.cells #[.int .i64 1, .slice none 0 0, .slice none 0 0] 126)) (w.heap.size + 1) 126 #[.int .i64 1, .slice none 0 0, .slice none 0 0] := by
    have h := Blk.new (w.alloc (.cells #[.int .i64 0, .slice none 0 0, .slice none 0 0] 126)) 126 #[.int .i64 1, .slice none 0 0, .slice none 0 0]
    simpa using h
  have hS0 : Blk ((w.alloc (.cells #[.int .i64 0, .slice none 0 0, .slice none 0 0] 126)).alloc (.cells #[.int .i64 1, .slice none 0 0, .slice none 0 0] 126)) w.heap.size 126 #[.int .i64 0, .slice none 0 0, .slice none 0 0] := (Blk.new w _ _).alloc _
  go_loopw [8] (fun v wr => ∃ (k : Nat) (A1 : Option Addr) (n1 c1 : Nat), v = .int .i64 k ∧ k ≤ m ∧ n1 ≤ k ∧ Own wr (w.heap.size + 2) 3 1 A1 n1 c1 ((pickB M no k).map encN) ∧ Blk wr (w.heap.size + 1) 126 #[.int .i64 1, .slice A1 n1 c1, .slice none 0 0] ∧ Blk wr w.heap.size 126 #[.int .i64 0, .slice none 0 0, .slice none 0 0] ∧ Below w.heap.size w wr) (fun v _ => m - (intOf v).toNat)
  case atStart => exact ⟨0, none, 0, 0, rfl, by omega, by omega, Own.nil_ _ _ _ _, hS1, hS0, ((Below.refl _ _).alloc (Nat.le_refl _) _).alloc (by simp) _⟩
  case round =>
    obtain ⟨k, A1, n1, c1, rfl, hk, hnk, ho, hB1, hB0, hb⟩ := hrel
    by_cases hlt : k < m
    · obtain ⟨x, hx⟩ : ∃ x, M[k]? = some x := ⟨_, List.getElem?_eq_getElem (by have := Hm.out; omega)⟩
      obtain ⟨bk, off, rfl, cM⟩ := (hA.below hb).atBo hx
      have hpn := pickB_next M no k
      have hgd : M.getD k false = x := by rw [List.getD_eq_getElem?_getD, hx]; rfl
      have hzr := hB1.lt
      have p1 := hB1.cell 1
      simp only [List.getElem?_toArray, List.getElem?_cons_succ, List.getElem?_cons_zero] at p1
      cases hq : (x != no) with
      | true =>
        rw [hgd, hq, if_pos rfl] at hpn
        have hq2 : (x == no) = false := by cases x <;> cases no <;> first | rfl | cases hq
        have Hpn := Lib.hid hpn
        clear hpn hgd
        have T1 := (ho.alloc (.cells #[.int .i64 (k : Int)] 3))
        have T2 : (n1 + 1) * 8 ≤ 140737488355328 := by omega
        have T3 : w.heap.size + 2 ≤ (wr.alloc (.cells #[.int .i64 (k : Int)] 3)).heap.size := by simp; omega
        have T4 := encN_ok' [k]
        have T5 : Rd (wr.alloc (.cells #[.int .i64 (k : Int)] 3)) 1 (some ⟨wr.heap.size, 0, none⟩) [encN k] := Rd.newAt (by simp) rfl
        have T6 : n1 + 1 ≤ maxLen := by unfold maxLen; omega
        have hNE : some (w.heap.size + 1) ≠ A1.map (·.block) := fun e => by
          cases hA1 : A1 with
          | none => rw [hA1] at e; cases e
          | some a => rw [hA1] at e; injection e with e; have e2 : w.heap.size + 1 = a.block := e; have := (ho.lt a hA1).1; omega
        go_wp2_with (at_builtin; refine wpList_app rfl (.tmp 22) (.tmp 24) _ rfl (w.heap.size + 2) 3 i0 _ 1 8 Tryz.underlying23 hi0 hz0 hz1 hz2 rfl (by omega) A1 n1 c1 ((pickB M no k).map encN) rfl T1 _ 1 1 [encN k] rfl rfl T5 T4 T6 T2 T3 ?_; intro A3 c3 w5 ho5 hg5 hA5; have hB5 := (hB1.alloc (.cells #[.int .i64 (k : Int)] 3)).grown hg5 hNE; have d1 := hB5.cell 1; simp only [List.getElem?_toArray, List.getElem?_cons_succ, List.getElem?_cons_zero] at d1; have f1 := hB5.frozen 1)
        have hB50 := (hB0.alloc (.cells #[.int .i64 (k : Int)] 3)).grown hg5 (fun e => by
          cases hA1 : A1 with
          | none => rw [hA1] at e; cases e
          | some a => rw [hA1] at e; injection e with e; have e2 : w.heap.size = a.block := e; have := (ho.lt a hA1).1; omega)
        have hb5 := below_app (hb.alloc (by omega) (.cells #[.int .i64 (k : Int)] 3)) hg5 (by simp; omega) (fun a ha => by have := (ho.lt a ha).1; omega)
        refine ⟨⟨k + 1, A3, n1 + 1, c3, by go_num, by omega, by omega, by rw [Hpn.out, List.map_append]; exact ho5.setCell (p := ⟨w.heap.size + 1, 1, none⟩) (fun a ha => by have := (ho5.lt a ha).1; simp; omega) _, by simpa using hB5.set_ 1 (.slice A3 (n1 + 1) c3), hB50.far (p := ⟨w.heap.size + 1, 1, none⟩) (by simp) _, hb5.setCell (p := ⟨w.heap.size + 1, 1, none⟩) (by simp) _⟩, ?_⟩
        simp [intOf]; omega
      | false =>
        rw [hgd, hq, if_neg (by decide), List.append_nil] at hpn
        have hq2 : (x == no) = true := by cases x <;> cases no <;> first | rfl | cases hq
        have Hpn := Lib.hid hpn
        clear hpn hgd
        go_wp2
        refine ⟨⟨k + 1, A1, n1, c1, by go_num, by omega, by omega, by rw [Hpn.out]; exact ho, hB1, hB0, hb⟩, ?_⟩
        simp [intOf]; omega
    · have hkm : k = m := by omega
      subst hkm
      have p0 := hB1.cell 0
      have p1 := hB1.cell 1
      have p2 := hB1.cell 2
      have z0 := hB0.cell 0
      have z1 := hB0.cell 1
      have z2 := hB0.cell 2
      simp only [List.getElem?_toArray, List.getElem?_cons_succ, List.getElem?_cons_zero] at p0 p1 p2 z0 z1 z2
      have g0 := hB0.frozen 0
      have g1 := hB0.frozen 1
      have g2 := hB0.frozen 2
      go_wp2
      have hf := ((hB0.set_ 0 (.int .i64 1)).set_ 1 (.slice A1 n1 c1)).set_ 2 (.slice none 0 0)
      refine bodyPost_ret (res_from _ w.heap.size (1, (A1, n1, c1), (none, 0, 0)) _ rfl (PCell.of_blk (by simpa using hf))) rfl ?_
      have hA1 : ∀ a, A1 = some a → a.block ≠ w.heap.size := fun a ha => by have := (ho.lt a ha).1; omega
      refine ⟨_, rfl, ?_, ?_⟩
      · simp only [PatX]
        refine ⟨trivial, ⟨(((ho.setCell (p := ⟨w.heap.size, 0, none⟩) hA1 _).setCell (p := ⟨w.heap.size, 1, none⟩) hA1 _).setCell (p := ⟨w.heap.size, 2, none⟩) hA1 _).rd (by decide), by have := ho.len; simpa using this, fun a ha => by have := ho.lt a ha; exact ⟨by omega, by simp; omega⟩⟩, [], SlX.nil_ _ _ _, by simp only [PatsX]⟩
      · exact ((hb.setCell (p := ⟨w.heap.size, 0, none⟩) (Nat.le_refl _) _).setCell (p := ⟨w.heap.size, 1, none⟩) (Nat.le_refl _) _).setCell (p := ⟨w.heap.size, 2, none⟩) (Nat.le_refl _) _
end Go.Proofs.YtdnkignhenkamaaGreatDoor

/- -/
namespace Go.Proofs.YtdnkignhenkamaaGreatDoor
open Go.RowKit
theorem infoBoD : (Tryz.prog.info? 4).map (fun i => (i.zero, i.size, i.bytes)) = some (some (.bool false), 1, 1) := by kernel_rfl
theorem letter_part {c : UInt8} (h : pLetter c = true) : pPart c = true := by unfold pPart; rw [h]; rfl
theorem pName_some {ns : List (List UInt8)} {l r2 : List UInt8} {i : Nat} (h : pName ns l = some (i, r2)) : i < ns.length ∧ r2 = l.dropWhile pPart := by
  unfold pName at h
  split at h
  · cases h
  · split at h
    · cases h
    · rename_i j hj
      injection h with h
      injection h with h1 h2
      subst h1
      exact ⟨(List.findIdx?_eq_some_iff_getElem.1 hj).1, h2.symm⟩
theorem drop_less (q : UInt8 → Bool) (l : List UInt8) : (l.dropWhile q).length ≤ l.length := (List.dropWhile_suffix q).length_le
theorem name_less {ns : List (List UInt8)} {c : UInt8} {r r2 : List UInt8} {i : Nat} (h : pName ns (c :: r) = some (i, r2)) (hc : pLetter c = true) : r2.length < (c :: r).length := by
  rw [(pName_some h).2, List.dropWhile_cons, if_pos (letter_part hc), List.length_cons]
  exact Nat.lt_succ_of_le (drop_less _ _)
theorem listGo_cases {ns : List (List UInt8)} {f : Nat} {l : List UInt8} {acc : List Nat} {res : List Nat × List UInt8} (h : listGo ns f l acc = some res) :
    ∃ c r, skipB l = c :: r ∧ ((c.toNat = 93 ∧ res = (acc, r)) ∨ (c.toNat ≠ 93 ∧ pLetter c = true ∧ ∃ i r2 f', pName ns (c :: r) = some (i, r2) ∧ listGo ns f' r2 (i :: acc) = some res)) := by
  cases f with
  | zero => cases h
  | succ f =>
    rw [listGo] at h
    split at h
    · cases h
    · rename_i c r hs
      refine ⟨c, r, hs, ?_⟩
      split at h
      · rename_i h93
        injection h with h
        exact .inl ⟨h93, h.symm⟩
      · rename_i h93
        split at h
        · rename_i hl
          split at h
          · cases h
          · rename_i i r2 hp
            exact .inr ⟨h93, hl, i, r2, f, hp, h⟩
        · cases h
def marksP (acc : List Nat) (n : Nat) : List Bool := (List.range n).map fun i => acc.contains i
theorem marks_len (acc : List Nat) (n : Nat) : (marksP acc n).length = n := by simp [marksP]
theorem marks_nil (n : Nat) : marksP [] n = List.replicate n false := by
  unfold marksP
  rw [List.eq_replicate_iff]
  simp
theorem marks_set {acc : List Nat} {n i : Nat} : (marksP acc n).set i true = marksP (i :: acc) n := by
  apply List.ext_getElem (by simp [marksP])
  intro k h1 h2
  rw [List.getElem_set]
  simp only [marksP, List.getElem_map, List.getElem_range, List.contains_cons]
  by_cases e : i = k
  · subst e
    rw [if_pos rfl]; simp
  · rw [if_neg e, show (k == i) = false from beq_eq_false_iff_ne.2 (Ne.symm e), Bool.false_or]
theorem marks_at {acc : List Nat} {n i : Nat} (h : i < n) : (marksP acc n)[i]? = some (acc.contains i) := by
  unfold marksP
  rw [List.getElem?_map, List.getElem?_range h]; rfl
theorem pick_marks (acc : List Nat) (n : Nat) (no : Bool) : pickB (marksP acc n) no n = (List.range n).filter fun i => acc.contains i != no := by
  unfold pickB
  apply List.filter_congr
  intro j hj
  rw [List.getD_eq_getElem?_getD, marks_at (List.mem_range.1 hj)]; rfl
theorem made_noB (n : Nat) : (madeCells (Value.bool false).cells (n * 1)).toList = ((List.replicate n false).map encBo).flatten := by
  rw [Nat.mul_one]
  unfold madeCells
  rw [Array.toList_map, Array.toList_range]
  induction n with
  | zero => rfl
  | succ n ih =>
    rw [List.range_succ, List.map_append, ih, List.replicate_succ', List.map_append, List.flatten_append]
    congr 1
    simp [Value.cells, encBo, Nat.mod_one]
theorem encBo_ok (l : List Bool) : ∀ y ∈ l.map encBo, y.length = 1 ∧ ∀ u ∈ y, u.oneCell' = true := by
  intro y hy
  obtain ⟨x, _, rfl⟩ := List.mem_map.1 hy
  exact ⟨rfl, fun u hu => by simp [encBo] at hu; subst hu; rfl⟩
set_option maxRecDepth 100000 in
theorem res_list (w : World) (b : Nat) (v : Pv) (tmps : Array Value) (ht : tmps.getD 2 undef = .pointer (some ⟨b, 0, none⟩)) (hc : PCell w b v) : (results Tryz.f258 tmps).run Tryz.prog w = .ok (valPt v) w := by
  have ht' : tmps[2]?.getD undef = .pointer (some ⟨b, 0, none⟩) := by simpa [Array.getD_eq_getD_getElem?] using ht
  obtain ⟨h0, h1, h2⟩ := hc
  simp [results, Tryz.results258, go_sem, ht', h0, h1, h2, valPt]
theorem RS.belowB {w w' : World} {p B : Nat} {s : ByteArray} {A : Option Addr} {nn cn : Nat} {names : List (List UInt8)} {a d k : Nat} (h : RS w p s A nn cn names a d k) (hb : Below B w w') (hp : p < B) (hA : ∀ x, A = some x → x.block < B) : RS w' p s A nn cn names a d k :=
  ⟨(hb.block p hp).trans h.blk, h.nm.belowB hb hA, h.len, fun x hx => ⟨(h.off x hx).1, Nat.lt_of_lt_of_le (h.off x hx).2 hb.size⟩⟩
set_option maxRecDepth 100000 in
set_option maxHeartbeats 8000000 in
theorem jlist_any (p : Nat) (s : ByteArray) (A : Option Addr) (nn cn : Nat) (names : List (List UInt8)) (a d k f : Nat) (b : UInt8) (r1 rest : List UInt8) (acc : List Nat) (w : World)
    (h : RS w p s A nn cn names a d k) (hk : k < 512) (ha : a < s.size) (hs : s.size ≤ 1000000) (hnz : nn ≤ 1000000) (hsk : skipB (s.data.toList.drop (a + 1)) = b :: r1)
    (hL : listGo names f (if b.toNat = 94 then r1 else b :: r1) [] = some (acc, rest)) :
    Calls Tryz.prog 258 #[.pointer (some ⟨p, 0, none⟩)] w fun e w' => ∃ v x, e = .returned (valPt v) ∧ RS w' p s A nn cn names x d (k + 1) ∧ s.data.toList.drop x = rest ∧ x ≤ s.size ∧ w.grownBy w' (some p) ∧ PatX w' (fun b => w.heap.size ≤ b) (fromP nn acc (decide (b.toNat = 94))) v := by
  obtain ⟨j0, hj0, hy0, hy1, hy2⟩ := info_parts infoBoD
  have hpw := h.lt
  have hln := h.len
  have HAw := Lib.hid (fun x (hx : A = some x) => (h.off x hx).2)
  have HC := Lib.hid (fun W (h : RS W p s A nn cn names a d k) => jcounts_any p s A nn cn names a d k a W h hk)
  have HS := Lib.hid (fun x W (h : RS W p s A nn cn names x d (k + 1)) (hx : x ≤ s.size) => jsees_any p s A nn cn names x d (k + 1) W h hx hs)
  have HN := Lib.hid (fun x i0 rest W (h : RS W p s A nn cn names x d (k + 1)) (hx : x ≤ s.size) (hP : pName names (s.data.toList.drop x) = some (i0, rest)) => jname_any p s A nn cn names x d (k + 1) i0 rest W h hx hs hnz hP)
  have HF := Lib.hid (fun A' c' M no W (hA : Rd W 1 A' (M.map encBo)) (hm : M.length = nn) => jfrom_any nn A' nn c' M no W hA hm rfl hnz)
  have hw0 := h.below ((Below.refl w.heap.size w).alloc (Nat.le_refl _) (.cells #[.int .i64 0, .slice none 0 0, .slice none 0 0] 126))
  have cz := hw0.c1
  obtain ⟨L0, HL0⟩ : ∃ L, Hid ((if b.toNat = 94 then r1 else b :: r1) = L) := ⟨_, Lib.hid rfl⟩
  rw [HL0.out] at hL
  have HL := Lib.hid hL
  obtain ⟨q, Hq⟩ : ∃ q, Hid (decide (b.toNat = 94) = q) := ⟨_, Lib.hid rfl⟩
  have e94 : ((b.toNat : Int) == 94) = q := by rw [← Hq.out, Bool.eq_iff_iff, beq_iff_eq, decide_eq_true_iff]; omega
  have Hsk := Lib.hid hsk
  rw [Hq.out]
  clear hL hsk h
  go_enter Tryz.func258, Tryz.ntmps258
  go_wp2_with fail
  refine (HC.out _ hw0).mono ?_
  rintro e w1 ⟨rfl, hr, hg⟩
  clear cz
  have hB0 : Blk w1 w.heap.size 126 #[.int .i64 0, .slice none 0 0, .slice none 0 0] := (Blk.new w _ _).grown hg (fun e => by injection e with e; omega)
  have hg0 : w.grownBy w1 (some p) := only_trans (only_alloc (only_refl w _) _) hg
  have c1 := hr.c1
  have f1 := hr.f 1
  have hr2 := hr.setAt (a + 1)
  have ez : ((a + 1 : Nat) : Int) = (a : Int) + 1 := by omega
  rw [ez] at hr2
  have hB1 := hB0.far (p := ⟨p, 1, none⟩) (by simp; omega) (.int .i64 ((a : Int) + 1))
  have hg1 := only_setCell hg0 (p := ⟨p, 1, none⟩) (.inl rfl) (.int .i64 ((a : Int) + 1))
  have c5 := hr2.c5
  have h0 := HS.out (a + 1) _ hr2 (by omega)
  rw [Hsk.out, show headN (b :: r1) = b.toNat from rfl] at h0
  have HS1 := Lib.hid h0
  clear h0 hB0 hg0 hg hr hw0 HC ez
  go_wp2_with fail
  refine HS1.out.mono ?_
  rintro e w2 ⟨rfl, x, hr3, hd, hx, hg3⟩
  have hB2 := hB1.grown hg3 (fun e => by injection e with e; omega)
  have hg2 := only_trans hg1 hg3
  have Hd := Lib.hid hd
  clear hd c1 f1 c5 hr2 hB1 hg1 hg3 HS1
  go_upto_if 29 with fail
  go_cut [3] from 7 to 37 (fun v wx => v = .bool q ∧ ∃ x, RS wx p s A nn cn names x d (k + 1) ∧ Hid (s.data.toList.drop x = L0) ∧ x ≤ s.size ∧ w.grownBy wx (some p) ∧ Blk wx w.heap.size 126 #[.int .i64 0, .slice none 0 0, .slice none 0 0])
  case first =>
    cases q with
    | true =>
      have hb94 := of_decide_eq_true Hq.out
      have hxs : x < s.size := Nat.lt_of_not_le fun hle => by
        have h1 := Hd.out
        rw [drop_end s (by omega)] at h1
        cases h1
      have HD2 := Lib.hid (show s.data.toList.drop (x + 1) = L0 by
        obtain ⟨b', h1, _⟩ := byte_at s hxs
        have h2 := Hd.out
        rw [h1] at h2
        injection h2 with _ h2
        rw [h2, ← HL0.out, if_pos hb94])
      have c1 := hr3.c1
      have f1 := hr3.f 1
      have hr4 := hr3.setAt (x + 1)
      have ez : ((x + 1 : Nat) : Int) = (x : Int) + 1 := by omega
      rw [ez] at hr4
      clear ez hb94
      go_wp2_with fail
      go_meet
      exact ⟨rfl, x + 1, hr4, HD2, by omega, only_setCell hg2 (.inl rfl) _, hB2.far (p := ⟨p, 1, none⟩) (by simp; omega) _⟩
    | false =>
      have hb94 := of_decide_eq_false Hq.out
      have HD2 := Lib.hid (show s.data.toList.drop x = L0 by rw [Hd.out, ← HL0.out, if_neg hb94])
      clear hb94
      go_wp2_with fail
      go_meet
      exact ⟨rfl, x, hr3, HD2, hx, hg2, hB2⟩
  case rest =>
    clear hr3 Hd hx hg2 hB2 e94 Hsk
    obtain ⟨rfl, x, hr3, HD0, hx, hg2, hB2⟩ := hcut
    have c2 := hr3.c2
    have hbz := hB2.lt
    go_wp2_with (at_make; go_must (refine wpList_make_full _ rfl (.tmp 41) (.tmp 41) 256 rfl (w.heap.size + 1) 4 j0 (.bool false) 1 Tryz.underlying256 hj0 hy0 hy1 .i64 .i64 _ _ nn rfl rfl (by omega) (by omega) (by rw [hy2]; omega) (by unfold maxLen; omega) (by omega) ?_); intro w4 ho4 hg4)
    have HO : Own w4 (w.heap.size + 1) 4 1 (some ⟨wc.heap.size, 0, none⟩) nn nn ((marksP [] nn).map encBo) := ⟨by simp [marks_len], fun y hy => (encBo_ok _ y hy).1, by rw [marks_nil, ← made_noB]; exact ho4⟩
    have hg40 : w.grownBy w4 (some p) := only_below hg2 (below_new hg4)
    have hr4 := hr3.below (below_new hg4)
    have hB4 := hB2.below (below_new hg4)
    have HL2 : Hid (listGo names f (s.data.toList.drop x) [] = some (acc, rest)) := Lib.hid (by rw [HD0.out]; exact HL.out)
    clear ho4 hg4 hr3 hB2 hg2 c2 HL HD0 HL0 Hq
    generalize wc.heap.size = mb at HO hbz
    go_loopw [5, 6] (fun _ _ wr => ∃ (x : Nat) (acc0 : List Nat) (f0 : Nat), RS wr p s A nn cn names x d (k + 1) ∧ Hid (listGo names f0 (s.data.toList.drop x) acc0 = some (acc, rest)) ∧ x ≤ s.size ∧ w.grownBy wr (some p) ∧ Blk wr w.heap.size 126 #[.int .i64 0, .slice none 0 0, .slice none 0 0] ∧ Own wr (w.heap.size + 1) 4 1 (some ⟨mb, 0, none⟩) nn nn ((marksP acc0 nn).map encBo)) (fun _ _ wr => s.size - atOf wr p)
    case atStart => exact ⟨x, [], f, hr4, HL2, hx, hg40, hB4, HO⟩
    case round =>
      clear hr4 HL2 hx hg40 hB4 HO
      obtain ⟨y, acc0, f0, hr, HG, hy, hg, hB, ho⟩ := hrel
      have Hat := Lib.hid hr.atOf
      obtain ⟨c, r, hsk2, hcs⟩ := listGo_cases HG.out
      have Hcs := Lib.hid hcs
      have hly : (c :: r).length ≤ s.size - y := by
        rw [← hsk2]
        refine Nat.le_trans (drop_less _ _) ?_
        rw [List.length_drop, size_data]; exact Nat.le_refl _
      have c5 := hr.c5
      have h0 := HS.out y _ hr hy
      rw [hsk2, show headN (c :: r) = c.toNat from rfl] at h0
      have HS2 := Lib.hid h0
      clear h0 hsk2 hcs HG
      go_wp2_with fail
      refine HS2.out.mono ?_
      rintro e w5 ⟨rfl, x1, hr5, hd5, hx1, hg5⟩
      have hxs : x1 < s.size := Nat.lt_of_not_le fun hle => by
        rw [drop_end s (by omega)] at hd5
        cases hd5
      have hl1 : (c :: r).length = s.size - x1 := by rw [← hd5, List.length_drop, size_data]
      have t1 : decide (s.size ≤ x1) = false := decide_eq_false (by omega)
      have Hd5 := Lib.hid hd5
      have c0 := hr5.c0
      have c1 := hr5.c1
      have hB5 := hB.grown hg5 (fun e => by injection e with e; omega)
      have ho5 := ho.grown hg5 (fun a ha e => by injection ha with ha; subst ha; injection e with e; simp only at e; omega)
      have hgg := only_trans hg hg5
      clear hr c5 hg hB ho HS2 hd5 hg5
      go_wp2_with fail
      go_quiet (fail)
      rcases Hcs.out with ⟨h93, hres⟩ | ⟨h93, hlet, i0, r2, f', hp, hL2⟩
      · have t2 : ((c.toNat : Int) == 93) = true := by rw [beq_iff_eq]; omega
        have hxy : acc = acc0 ∧ rest = r := by injection hres with h1 h2; exact ⟨h1, h2⟩
        obtain ⟨rfl, rfl⟩ := hxy
        have HD2 := Lib.hid (show s.data.toList.drop (x1 + 1) = rest by
          obtain ⟨b', h1, _⟩ := byte_at s hxs
          have h2 := Hd5.out
          rw [h1] at h2
          injection h2)
        have f1 := hr5.f 1
        have hr6 := (hr5.drewN nq).setAt (x1 + 1)
        have ez : ((x1 + 1 : Nat) : Int) = (x1 : Int) + 1 := by omega
        rw [ez] at hr6
        have c2 := hr6.c2
        have ho6 : Own ((w5.drewN nq).setCell ⟨p, 1, none⟩ (.int .i64 ((x1 : Int) + 1))) (w.heap.size + 1) 4 1 (some ⟨mb, 0, none⟩) nn nn ((marksP acc nn).map encBo) := (ho5.drewN nq).setCell (p := ⟨p, 1, none⟩) (fun a ha e => by injection ha with ha; subst ha; simp only at e; omega) _
        have hB6 : Blk ((w5.drewN nq).setCell ⟨p, 1, none⟩ (.int .i64 ((x1 : Int) + 1))) w.heap.size 126 #[.int .i64 0, .slice none 0 0, .slice none 0 0] := (hB5.drewN nq).far (p := ⟨p, 1, none⟩) (by simp; omega) _
        have hg6 : w.grownBy ((w5.drewN nq).setCell ⟨p, 1, none⟩ (.int .i64 ((x1 : Int) + 1))) (some p) := only_setCell (only_drewN hgg nq) (p := ⟨p, 1, none⟩) (.inl rfl) _
        have HC2 := Lib.hid (HF.out _ nn (marksP acc nn) q _ (ho6.rd (by decide)) (marks_len _ _))
        clear ez Hcs hres hly hl1 Hat ho5 hB5 hgg hr5
        go_wp2_with fail
        refine HC2.out.mono ?_
        rintro e w7 ⟨v, rfl, hpat, hb7⟩
        have hB7 := hB6.below hb7
        have hr7 := hr6.below hb7
        have hg7 := only_below hg6 hb7
        have hz7 := hB6.lt
        rw [pick_marks] at hpat
        have Hpat := Lib.hid hpat
        have z0 := hB7.cell 0
        have z1 := hB7.cell 1
        have z2 := hB7.cell 2
        simp only [List.getElem?_toArray, List.getElem?_cons_succ, List.getElem?_cons_zero] at z0 z1 z2
        have g0 := hB7.frozen 0
        have g1 := hB7.frozen 1
        have g2 := hB7.frozen 2
        clear HC2 hpat c2 hr6 ho6 hB6 hg6
        obtain ⟨v0, ⟨A1, n1, c1'⟩, ⟨A2, n2, c2'⟩⟩ := v
        simp only [valPt]
        go_wp2
        have hf := ((hB7.set_ 0 (.int .i64 (v0 : Int))).set_ 1 (.slice A1 n1 c1')).set_ 2 (.slice A2 n2 c2')
        have hg8 : w7.grownBy (((w7.setCell ⟨w.heap.size, 0, none⟩ (.int .i64 (v0 : Int))).setCell ⟨w.heap.size, 1, none⟩ (.slice A1 n1 c1')).setCell ⟨w.heap.size, 2, none⟩ (.slice A2 n2 c2')) (some w.heap.size) := only_setCell (only_setCell (only_setCell (only_refl _ _) (p := ⟨w.heap.size, 0, none⟩) (.inl rfl) _) (p := ⟨w.heap.size, 1, none⟩) (.inl rfl) _) (p := ⟨w.heap.size, 2, none⟩) (.inl rfl) _
        have hb8 : Below w.heap.size w7 (((w7.setCell ⟨w.heap.size, 0, none⟩ (.int .i64 (v0 : Int))).setCell ⟨w.heap.size, 1, none⟩ (.slice A1 n1 c1')).setCell ⟨w.heap.size, 2, none⟩ (.slice A2 n2 c2')) := (((Below.refl _ _).setCell (p := ⟨w.heap.size, 0, none⟩) (Nat.le_refl _) _).setCell (p := ⟨w.heap.size, 1, none⟩) (Nat.le_refl _) _).setCell (p := ⟨w.heap.size, 2, none⟩) (Nat.le_refl _) _
        refine bodyPost_ret (res_list _ w.heap.size (v0, (A1, n1, c1'), (A2, n2, c2')) _ rfl (PCell.of_blk (by simpa using hf))) rfl ?_
        refine ⟨_, x1 + 1, rfl, hr7.belowB hb8 hpw HAw.out, HD2.out, by omega, only_setCell (only_setCell (only_setCell hg7 (p := ⟨w.heap.size, 0, none⟩) (.inr (Nat.le_refl _)) _) (p := ⟨w.heap.size, 1, none⟩) (.inr (Nat.le_refl _)) _) (p := ⟨w.heap.size, 2, none⟩) (.inr (Nat.le_refl _)) _, ?_⟩
        exact PatX.keep ((KeepX.grown hg8 (fun r hr h => by injection hr with hr; subst hr; omega)).trans (KeepX.same (fun b h _ => by show w.heap.size ≤ b; omega))) Hpat.out
      · have t2 : ((c.toNat : Int) == 93) = false := by rw [beq_eq_false_iff_ne]; omega
        have hi0 := (pName_some hp).1
        rw [hln] at hi0
        have hlr := name_less hp hlet
        have h1 := jletter_b c (w5.drewN nq)
        rw [hlet] at h1
        have HLt := Lib.hid h1
        have HN2 := Lib.hid (HN.out x1 i0 r2 _ (hr5.drewN nq) hx1 (by rw [Hd5.out]; exact hp))
        clear h1 hp Hcs
        have HLr := Lib.hid hL2
        clear hL2
        go_wp2_with fail
        refine HLt.out.mono ?_
        rintro e w6 ⟨rfl, rfl⟩
        go_wp2_with fail
        refine HN2.out.mono ?_
        rintro e w6 ⟨rfl, x2, hr6, hd6, hx2, hg6⟩
        have c5 := hr6.c5
        have ho6 := (ho5.drewN nq).grown hg6 (fun a ha e => by injection ha with ha; subst ha; injection e with e; simp only at e; omega)
        have hB6 := (hB5.drewN nq).grown hg6 (fun e => by injection e with e; omega)
        have hst := fun v => ho6.stored (k := i0) (j := 0) (x := encBo (acc0.contains i0)) (by rw [List.getElem?_map, marks_at hi0]; rfl) (by omega) v
        have hca := ho6.cell (k := i0) (j := 0) (x := encBo (acc0.contains i0)) (u := .bool (acc0.contains i0)) (by rw [List.getElem?_map, marks_at hi0]; rfl) rfl
        have hfz := ho6.frozen i0
        simp only [Nat.mul_one, Nat.add_zero] at hst hca
        have HS6 : Hid (Own (w6.setCell ⟨mb, i0, none⟩ (.bool true)) (w.heap.size + 1) 4 1 (some ⟨mb, 0, none⟩) nn nn ((marksP (i0 :: acc0) nn).map encBo)) := Lib.hid (by
          rw [← marks_set, List.map_set]
          exact hst _)
        have hb7 : Below w.heap.size w6 (w6.setCell ⟨mb, i0, none⟩ (.bool true)) := (Below.refl _ _).setCell (p := ⟨mb, i0, none⟩) (by simp; omega) _
        have hr7 := hr6.belowB hb7 hpw HAw.out
        have hB7 := hB6.far (p := ⟨mb, i0, none⟩) (by simp; omega) (.bool true)
        have hg7 := only_setCell (only_trans (only_drewN hgg nq) hg6) (p := ⟨mb, i0, none⟩) (.inr (by simp; omega)) (.bool true)
        have hl2 : r2.length = s.size - x2 := by rw [← hd6, List.length_drop, size_data]
        have Hm2 := Lib.hid (show s.size - x2 < s.size - y by omega)
        have HG2 : Hid (listGo names f' (s.data.toList.drop x2) (i0 :: acc0) = some (acc, rest)) := Lib.hid (by rw [hd6]; exact HLr.out)
        have hi1 : (i0 : Int) < (nn : Int) := by omega
        have hi2 : (0 : Int) ≤ (i0 : Int) := by omega
        clear hst HLr hd6 hl2 hly hl1 hlr hi0 HLt HN2 hg6 hB6
        go_wp2
        refine ⟨⟨x2, i0 :: acc0, f', hr7, HG2, hx2, hg7, hB7, HS6.out⟩, ?_⟩
        rw [hr7.atOf, Hat.out]; exact Hm2.out
end Go.Proofs.YtdnkignhenkamaaGreatDoor

/- -/
namespace Go.Proofs.YtdnkignhenkamaaGreatDoor
open Go.RowKit
theorem atomP_cases {ns : List (List UInt8)} {f d k k' : Nat} {c : UInt8} {r rest : List UInt8} {pat : Pat} (h : atomP ns (f + 1) d c r k = some (pat, rest, k')) :
    k < 512 ∧ ((c.toNat = 40 ∧ d < 32 ∧ ∃ c2, patP ns f (d + 1) r (k + 1) = some (pat, c2 :: rest, k')) ∨
      (c.toNat = 91 ∧ k' = k + 1 ∧ ∃ b r1 acc, skipB r = b :: r1 ∧ listGo ns f (if b.toNat = 94 then r1 else b :: r1) [] = some (acc, rest) ∧ pat = fromP ns.length acc (decide (b.toNat = 94))) ∨
      (c.toNat = 46 ∧ pat = fromP ns.length [] true ∧ rest = r ∧ k' = k + 1) ∨
      (c.toNat ≠ 40 ∧ c.toNat ≠ 91 ∧ c.toNat ≠ 46 ∧ k' = k + 1 ∧ ∃ i, pName ns (c :: r) = some (i, rest) ∧ pat = .node 1 [i] [])) := by
  rw [atomP] at h
  split at h
  · cases h
  · rename_i hk
    refine ⟨by omega, ?_⟩
    split at h
    · rename_i h40
      split at h
      · cases h
      · rename_i hd
        split at h
        · cases h
        · cases h
        · rename_i p c2 l1 k1 hp
          injection h with h
          injection h with e1 e2
          injection e2 with e2 e3
          subst e1 e2 e3
          exact .inl ⟨h40, by omega, c2, hp⟩
    · rename_i h40
      split at h
      · rename_i h91
        split at h
        · cases h
        · rename_i b r1 hs
          split at h
          · cases h
          · rename_i acc l1 hl
            injection h with h
            injection h with e1 e2
            injection e2 with e2 e3
            subst e1 e2 e3
            exact .inr (.inl ⟨h91, rfl, b, r1, acc, hs, hl, rfl⟩)
      · rename_i h91
        split at h
        · rename_i h46
          injection h with h
          injection h with e1 e2
          injection e2 with e2 e3
          subst e1 e2 e3
          exact .inr (.inr (.inl ⟨h46, rfl, rfl, rfl⟩))
        · rename_i h46
          split at h
          · cases h
          · rename_i i l1 hp
            injection h with h
            injection h with e1 e2
            injection e2 with e2 e3
            subst e1 e2 e3
            exact .inr (.inr (.inr ⟨h40, h91, h46, rfl, i, hp, rfl⟩))
def RdPost (w : World) (p : Nat) (s : ByteArray) (A : Option Addr) (nn cn : Nat) (names : List (List UInt8)) (d : Nat) (pat : Pat) (rest : List UInt8) (k' : Nat) (e : Ending) (w' : World) : Prop :=
  ∃ v x, e = .returned (valPt v) ∧ RS w' p s A nn cn names x d k' ∧ s.data.toList.drop x = rest ∧ x ≤ s.size ∧ w.grownBy w' (some p) ∧ PatX w' (fun b => w.heap.size ≤ b) pat v
theorem pt_end {w w7 : World} {p B : Nat} {s : ByteArray} {A : Option Addr} {nn cn : Nat} {names : List (List UInt8)} {x d k : Nat} {a0 a1 a2 : Value} {pat : Pat} (v : Pv) (hB7 : Blk w7 w.heap.size 126 #[a0, a1, a2])
    (hr7 : RS w7 p s A nn cn names x d k) (hpw : p < w.heap.size) (hA : ∀ x, A = some x → x.block < w.heap.size) (hg7 : w.grownBy w7 (some p)) (hz : w.heap.size < B) (hpat : PatX w7 (fun b => B ≤ b) pat v) :
    Blk (((w7.setCell ⟨w.heap.size, 0, none⟩ (.int .i64 (v.1 : Int))).setCell ⟨w.heap.size, 1, none⟩ (.slice v.2.1.1 v.2.1.2.1 v.2.1.2.2)).setCell ⟨w.heap.size, 2, none⟩ (.slice v.2.2.1 v.2.2.2.1 v.2.2.2.2)) w.heap.size 126 #[.int .i64 (v.1 : Int), .slice v.2.1.1 v.2.1.2.1 v.2.1.2.2, .slice v.2.2.1 v.2.2.2.1 v.2.2.2.2] ∧
    RS (((w7.setCell ⟨w.heap.size, 0, none⟩ (.int .i64 (v.1 : Int))).setCell ⟨w.heap.size, 1, none⟩ (.slice v.2.1.1 v.2.1.2.1 v.2.1.2.2)).setCell ⟨w.heap.size, 2, none⟩ (.slice v.2.2.1 v.2.2.2.1 v.2.2.2.2)) p s A nn cn names x d k ∧
    w.grownBy (((w7.setCell ⟨w.heap.size, 0, none⟩ (.int .i64 (v.1 : Int))).setCell ⟨w.heap.size, 1, none⟩ (.slice v.2.1.1 v.2.1.2.1 v.2.1.2.2)).setCell ⟨w.heap.size, 2, none⟩ (.slice v.2.2.1 v.2.2.2.1 v.2.2.2.2)) (some p) ∧
    PatX (((w7.setCell ⟨w.heap.size, 0, none⟩ (.int .i64 (v.1 : Int))).setCell ⟨w.heap.size, 1, none⟩ (.slice v.2.1.1 v.2.1.2.1 v.2.1.2.2)).setCell ⟨w.heap.size, 2, none⟩ (.slice v.2.2.1 v.2.2.2.1 v.2.2.2.2)) (fun b => w.heap.size ≤ b) pat v := by
  obtain ⟨v0, ⟨A1, n1, c1'⟩, ⟨A2, n2, c2'⟩⟩ := v
  have hf := ((hB7.set_ 0 (.int .i64 (v0 : Int))).set_ 1 (.slice A1 n1 c1')).set_ 2 (.slice A2 n2 c2')
  have hg8 : w7.grownBy (((w7.setCell ⟨w.heap.size, 0, none⟩ (.int .i64 (v0 : Int))).setCell ⟨w.heap.size, 1, none⟩ (.slice A1 n1 c1')).setCell ⟨w.heap.size, 2, none⟩ (.slice A2 n2 c2')) (some w.heap.size) := only_setCell (only_setCell (only_setCell (only_refl _ _) (p := ⟨w.heap.size, 0, none⟩) (.inl rfl) _) (p := ⟨w.heap.size, 1, none⟩) (.inl rfl) _) (p := ⟨w.heap.size, 2, none⟩) (.inl rfl) _
  have hb8 : Below w.heap.size w7 (((w7.setCell ⟨w.heap.size, 0, none⟩ (.int .i64 (v0 : Int))).setCell ⟨w.heap.size, 1, none⟩ (.slice A1 n1 c1')).setCell ⟨w.heap.size, 2, none⟩ (.slice A2 n2 c2')) := (((Below.refl _ _).setCell (p := ⟨w.heap.size, 0, none⟩) (Nat.le_refl _) _).setCell (p := ⟨w.heap.size, 1, none⟩) (Nat.le_refl _) _).setCell (p := ⟨w.heap.size, 2, none⟩) (Nat.le_refl _) _
  refine ⟨by simpa using hf, hr7.belowB hb8 hpw hA, only_setCell (only_setCell (only_setCell hg7 (p := ⟨w.heap.size, 0, none⟩) (.inr (Nat.le_refl _)) _) (p := ⟨w.heap.size, 1, none⟩) (.inr (Nat.le_refl _)) _) (p := ⟨w.heap.size, 2, none⟩) (.inr (Nat.le_refl _)) _, ?_⟩
  exact PatX.keep ((KeepX.grown hg8 (fun r hr h => by injection hr with hr; subst hr; omega)).trans (KeepX.same (fun b h _ => by show w.heap.size ≤ b; omega))) hpat
set_option maxRecDepth 100000 in
theorem res_atom (w : World) (b : Nat) (v : Pv) (tmps : Array Value) (ht : tmps.getD 2 undef = .pointer (some ⟨b, 0, none⟩)) (hc : PCell w b v) : (results Tryz.f235 tmps).run Tryz.prog w = .ok (valPt v) w := by
  have ht' : tmps[2]?.getD undef = .pointer (some ⟨b, 0, none⟩) := by simpa [Array.getD_eq_getD_getElem?] using ht
  obtain ⟨h0, h1, h2⟩ := hc
  simp [results, Tryz.results235, go_sem, ht', h0, h1, h2, valPt]
end Go.Proofs.YtdnkignhenkamaaGreatDoor

/- -/
namespace Go.Proofs.YtdnkignhenkamaaGreatDoor
open Go.RowKit
theorem opsGo_cases {f k k2 : Nat} {p q : Pat} {l l2 : List UInt8} (h : opsGo f p l k = some (q, l2, k2)) :
    (skipB l = [] ∧ q = p ∧ l2 = [] ∧ k2 = k) ∨ ∃ c r, skipB l = c :: r ∧ ((pOper c = 0 ∧ q = p ∧ l2 = c :: r ∧ k2 = k) ∨ (pOper c ≠ 0 ∧ k < 512 ∧ ∃ f', opsGo f' (.node (pOper c) [] [p]) r (k + 1) = some (q, l2, k2))) := by
  cases f with
  | zero => cases h
  | succ f =>
    rw [opsGo] at h
    split at h
    · rename_i hs
      injection h with h
      injection h with e1 e2
      injection e2 with e2 e3
      exact .inl ⟨hs, e1.symm, e2.symm, e3.symm⟩
    · rename_i c r hs
      refine .inr ⟨c, r, hs, ?_⟩
      split at h
      · rename_i h0
        injection h with h
        injection h with e1 e2
        injection e2 with e2 e3
        exact .inl ⟨h0, e1.symm, e2.symm, e3.symm⟩
      · rename_i h0
        split at h
        · cases h
        · rename_i hk
          exact .inr ⟨h0, by omega, f, h⟩
theorem branchP_cases {ns : List (List UInt8)} {f d k k' : Nat} {acc : List Pat} {pat : Pat} {l rest : List UInt8} (h : branchP ns f d l k acc = some (pat, rest, k')) :
    (skipB l = [] ∧ pat = seqOf acc ∧ rest = [] ∧ k' = k) ∨ ∃ c r, skipB l = c :: r ∧ ((pBegins c = false ∧ pat = seqOf acc ∧ rest = c :: r ∧ k' = k) ∨
      (pBegins c = true ∧ ∃ f' p l1 k1 q l2 k2, f = f' + 1 ∧ atomP ns f' d c r k = some (p, l1, k1) ∧ opsGo f' p l1 k1 = some (q, l2, k2) ∧ branchP ns f' d l2 k2 (acc ++ [q]) = some (pat, rest, k'))) := by
  cases f with
  | zero => rw [branchP] at h; cases h
  | succ f =>
    rw [branchP] at h
    split at h
    · rename_i hs
      injection h with h
      injection h with e1 e2
      injection e2 with e2 e3
      exact .inl ⟨hs, e1.symm, e2.symm, e3.symm⟩
    · rename_i c r hs
      refine .inr ⟨c, r, hs, ?_⟩
      split at h
      · rename_i hb
        refine .inr ⟨hb, f, ?_⟩
        split at h
        · cases h
        · rename_i p l1 k1 ha
          split at h
          · cases h
          · rename_i q l2 k2 ho
            exact ⟨p, l1, k1, q, l2, k2, rfl, ha, ho, h⟩
      · rename_i hb
        injection h with h
        injection h with e1 e2
        injection e2 with e2 e3
        exact .inl ⟨by simpa using hb, e1.symm, e2.symm, e3.symm⟩
theorem altsP_cases {ns : List (List UInt8)} {f d k k' : Nat} {acc : List Pat} {pat : Pat} {l rest : List UInt8} (h : altsP ns f d l k acc = some (pat, rest, k')) :
    (skipB l = [] ∧ pat = altOf acc ∧ rest = [] ∧ k' = k) ∨ ∃ c r, skipB l = c :: r ∧ ((c.toNat = 124 ∧ k < 512 ∧ ∃ f' p l1 k1, f = f' + 1 ∧ branchP ns f' d r (k + 1) [] = some (p, l1, k1) ∧ altsP ns f' d l1 k1 (acc ++ [p]) = some (pat, rest, k')) ∨
      (c.toNat = 41 ∧ 0 < d ∧ pat = altOf acc ∧ rest = c :: r ∧ k' = k)) := by
  cases f with
  | zero => rw [altsP] at h; cases h
  | succ f =>
    rw [altsP] at h
    split at h
    · rename_i hs
      injection h with h
      injection h with e1 e2
      injection e2 with e2 e3
      exact .inl ⟨hs, e1.symm, e2.symm, e3.symm⟩
    · rename_i c r hs
      refine .inr ⟨c, r, hs, ?_⟩
      split at h
      · rename_i hc
        split at h
        · cases h
        · rename_i hk
          split at h
          · cases h
          · rename_i p l1 k1 hb
            exact .inl ⟨hc, by omega, f, p, l1, k1, rfl, hb, h⟩
      · split at h
        · rename_i hc
          injection h with h
          injection h with e1 e2
          injection e2 with e2 e3
          exact .inr ⟨hc.1, hc.2, e1.symm, e2.symm, e3.symm⟩
        · cases h
theorem patP_cases {ns : List (List UInt8)} {f d k k' : Nat} {pat : Pat} {l rest : List UInt8} (h : patP ns f d l k = some (pat, rest, k')) :
    ∃ f' p l1 k1, f = f' + 1 ∧ branchP ns f' d l k [] = some (p, l1, k1) ∧ altsP ns f' d l1 k1 [p] = some (pat, rest, k') := by
  cases f with
  | zero => rw [patP] at h; cases h
  | succ f =>
    rw [patP] at h
    split at h
    · cases h
    · rename_i p l1 k1 hb
      exact ⟨f, p, l1, k1, rfl, hb, h⟩
def UpTo (k k' : Nat) : Prop := k ≤ k' ∧ (k ≤ 512 → k' ≤ 512)
theorem UpTo.refl (k : Nat) : UpTo k k := ⟨Nat.le_refl _, id⟩
theorem UpTo.trans {a b c : Nat} (h : UpTo a b) (k : UpTo b c) : UpTo a c := ⟨Nat.le_trans h.1 k.1, fun q => k.2 (h.2 q)⟩
theorem UpTo.one {k : Nat} (h : k < 512) : UpTo k (k + 1) := ⟨Nat.le_succ _, fun _ => h⟩
theorem ops_up : ∀ (f : Nat) {k k2 : Nat} {p q : Pat} {l l2 : List UInt8}, opsGo f p l k = some (q, l2, k2) → UpTo k k2
  | 0, _, _, _, _, _, _, h => by rw [opsGo] at h; cases h
  | f + 1, k, k2, p, q, l, l2, h => by
    rw [opsGo] at h
    split at h
    · injection h with h; injection h with _ h; injection h with _ h; subst h; exact UpTo.refl _
    · split at h
      · injection h with h; injection h with _ h; injection h with _ h; subst h; exact UpTo.refl _
      · split at h
        · cases h
        · rename_i hk
          exact (UpTo.one (by omega)).trans (ops_up f h)
theorem parts_up (ns : List (List UInt8)) : ∀ f : Nat,
    (∀ {d k k' : Nat} {pat : Pat} {l rest : List UInt8}, patP ns f d l k = some (pat, rest, k') → UpTo k k') ∧
    (∀ {d k k' : Nat} {acc : List Pat} {pat : Pat} {l rest : List UInt8}, altsP ns f d l k acc = some (pat, rest, k') → UpTo k k') ∧
    (∀ {d k k' : Nat} {acc : List Pat} {pat : Pat} {l rest : List UInt8}, branchP ns f d l k acc = some (pat, rest, k') → UpTo k k') ∧
    (∀ {d k k' : Nat} {c : UInt8} {pat : Pat} {r rest : List UInt8}, atomP ns f d c r k = some (pat, rest, k') → k < 512 ∧ UpTo (k + 1) k')
  | 0 => ⟨fun h => (by rw [patP] at h; cases h), fun h => (by rw [altsP] at h; cases h), fun h => (by rw [branchP] at h; cases h), fun h => (by rw [atomP] at h; cases h)⟩
  | f + 1 => by
    obtain ⟨i1, i2, i3, i4⟩ := parts_up ns f
    refine ⟨fun h => ?_, fun h => ?_, fun h => ?_, fun h => ?_⟩
    · obtain ⟨f', p, l1, k1, e, hb, ha⟩ := patP_cases h
      injection e with e
      subst e
      exact (i3 hb).trans (i2 ha)
    · rcases altsP_cases h with ⟨_, _, _, rfl⟩ | ⟨c, r, _, ⟨_, hk, f', p, l1, k1, e, hb, ha⟩ | ⟨_, _, _, _, rfl⟩⟩
      · exact UpTo.refl _
      · injection e with e
        subst e
        exact (UpTo.one hk).trans ((i3 hb).trans (i2 ha))
      · exact UpTo.refl _
    · rcases branchP_cases h with ⟨_, _, _, rfl⟩ | ⟨c, r, _, ⟨_, _, _, rfl⟩ | ⟨_, f', p, l1, k1, q, l2, k2, e, ha, ho, hb⟩⟩
      · exact UpTo.refl _
      · exact UpTo.refl _
      · injection e with e
        subst e
        obtain ⟨hk, hu⟩ := i4 ha
        exact (UpTo.one hk).trans (hu.trans ((ops_up _ ho).trans (i3 hb)))
    · obtain ⟨hk, hcs⟩ := atomP_cases h
      refine ⟨hk, ?_⟩
      rcases hcs with ⟨_, _, c2, hp⟩ | ⟨_, rfl, _⟩ | ⟨_, _, _, rfl⟩ | ⟨_, _, _, rfl, _⟩
      · exact i1 hp
      · exact UpTo.refl _
      · exact UpTo.refl _
      · exact UpTo.refl _
end Go.Proofs.YtdnkignhenkamaaGreatDoor

/- -/
namespace Go.Proofs.YtdnkignhenkamaaGreatDoor
open Go.RowKit
def nmOk (l : List UInt8) : Bool := l.all pPart && (l.head?.map pLetter).getD false && decide (l.length ≤ 32)
def nmsOk (ns : List (List UInt8)) : Bool := decide (ns.length ≤ 64) && ns.all nmOk && decide ns.Nodup
theorem nm_part {l : List UInt8} (h : nmOk l = true) {b : UInt8} (hb : b ∈ l) : pPart b = true := by
  unfold nmOk at h
  simp only [Bool.and_eq_true, List.all_eq_true] at h
  exact h.1.1 b hb
theorem nm_letter {b : UInt8} {r : List UInt8} (h : nmOk (b :: r) = true) : pLetter b = true := by
  unfold nmOk at h
  simp only [Bool.and_eq_true, List.head?_cons, Option.map_some, Option.getD_some] at h
  exact h.1.2
theorem nm_len {l : List UInt8} (h : nmOk l = true) : 1 ≤ l.length ∧ l.length ≤ 32 := by
  unfold nmOk at h
  simp only [Bool.and_eq_true, decide_eq_true_iff] at h
  refine ⟨?_, h.2⟩
  cases l with
  | nil => simp at h
  | cons b r => simp
set_option maxRecDepth 100000 in
set_option maxHeartbeats 4000000 in
theorem jName_ok (s : ByteArray) (w : World) (h : nmOk s.data.toList = true) : Calls Tryz.prog 142 #[.string s] w fun e w' => e = .returned (.bool true) ∧ w = w' := by
  have HP := Lib.hid (fun b hb => nm_part h (b := b) hb)
  have HL := Lib.hid (fun b r (e : s.data.toList = b :: r) => nm_letter (b := b) (r := r) (e ▸ h))
  have hl := nm_len h
  rw [size_data] at hl
  clear h
  go_enter Tryz.func142, Tryz.ntmps142
  go_wp2
  go_loopw [3] (fun v wr => ∃ i : Nat, v = .int .i64 i ∧ i ≤ s.size ∧ wr = w) (fun v _ => s.size - (intOf v).toNat)
  case atStart => exact ⟨0, rfl, by omega, rfl⟩
  case round =>
    obtain ⟨i, rfl, hi, rfl⟩ := hrel
    by_cases hlt : i < s.size
    · obtain ⟨b, hd, hidx⟩ := byte_at s hlt
      have hpb := HP.out b (List.mem_of_mem_drop (by rw [hd]; simp))
      have h1 := jpart_b b wr
      rw [hpb] at h1
      have HJ := Lib.hid h1
      clear h1 hpb
      by_cases h0 : i = 0
      · subst h0
        have h2 := jletter_b b wr
        rw [HL.out b _ (by simpa using hd)] at h2
        have HK := Lib.hid h2
        have hidx0 : ∀ W, (Instr.index 9 (.string s) (.int .i64 0)).run Tryz.prog W = .ok (.int .u8 (b.toNat : Int)) W := hidx
        clear h2 hd hidx
        go_wp2_with fail
        refine HJ.out.mono ?_
        rintro e w2 ⟨rfl, rfl⟩
        go_wp2_with fail
        refine HK.out.mono ?_
        rintro e w2 ⟨rfl, rfl⟩
        go_wp2
        go_roundw
        case rel => exact ⟨1, by go_num, by omega, by first | rfl | trivial⟩
        case measure => simp [intOf]; omega
      · have t0 : ((i : Int) == 0) = false := by rw [beq_eq_false_iff_ne]; omega
        clear hd
        go_wp2_with fail
        refine HJ.out.mono ?_
        rintro e w2 ⟨rfl, rfl⟩
        go_wp2
        go_roundw
        case rel => exact ⟨i + 1, by go_num, by omega, by first | rfl | trivial⟩
        case measure => simp [intOf]; omega
    · obtain rfl : i = s.size := by omega
      have t1 : decide (1 ≤ s.size) = true := decide_eq_true hl.1
      have t2 : decide ((s.size : Int) ≤ 32) = true := decide_eq_true (by omega)
      go_wp2
      go_ret
      exact ⟨by first | rfl | exact congrArg (fun b => Ending.returned (.bool b)) t2, rfl⟩
set_option maxRecDepth 100000 in
set_option maxHeartbeats 4000000 in
theorem jNames_ok (A : Option Addr) (n c : Nat) (ns : List (List UInt8)) (w : World) (hA : Rd w 1 A (ns.map encNm)) (hl : ns.length = n) (h : nmsOk ns = true) : Calls Tryz.prog 113 #[.slice A n c] w fun e w' => e = .returned (.bool true) ∧ ∃ q, w' = w.drewN q := by
  unfold nmsOk at h
  simp only [Bool.and_eq_true, decide_eq_true_iff, List.all_eq_true] at h
  obtain ⟨⟨h64, hnm⟩, hnd⟩ := h
  have HN := Lib.hid (fun y (hy : y ∈ ns) W => jName_ok (bytesOf y) W (by rw [bytesOf_list]; exact hnm y hy))
  have HD := Lib.hid (fun i k x y (hi : ns[i]? = some x) (hk : ns[k]? = some y) (hlt : k < i) => (fun e => by
    obtain ⟨h1, h2⟩ := List.getElem?_eq_some_iff.1 hi
    obtain ⟨h3, h4⟩ := List.getElem?_eq_some_iff.1 hk
    have := (List.nodup_iff_pairwise_ne.1 hnd)
    rw [List.pairwise_iff_getElem] at this
    exact this k i h3 h1 hlt (by rw [h4, h2, e]) : y ≠ x))
  rw [hl] at h64
  clear hnm hnd
  have Hl := Lib.hid hl
  have h65 : ¬ 64 < n := by omega
  clear hl h64
  go_enter Tryz.func113, Tryz.ntmps113
  go_wp2
  go_loopw [3, 4] (fun v _ wr => ∃ i q : Nat, v = .int .i64 i ∧ i ≤ n ∧ wr = w.drewN q) (fun v _ _ => n - (intOf v).toNat)
  case atStart => exact ⟨0, 0, rfl, by omega, rfl⟩
  case round =>
    obtain ⟨i, q, rfl, hi, rfl⟩ := hrel
    have hA1 := hA
    by_cases hlt : i < n
    · obtain ⟨x, Hx⟩ : ∃ x, Hid (ns[i]? = some x) := ⟨_, Lib.hid (List.getElem?_eq_getElem (by have := Hl.out; omega))⟩
      obtain ⟨b, off, rfl, hc⟩ := hA1.atS Hx.out
      have HJ := Lib.hid (HN.out x (List.mem_of_getElem? Hx.out) (w.drewN q))
      go_wp2_with fail
      refine HJ.out.mono ?_
      rintro e w2 ⟨rfl, rfl⟩
      go_wp2_with fail
      go_loopw [4] (fun v wq => ∃ k q : Nat, v = .int .i64 k ∧ k ≤ i ∧ wq = w.drewN q) (fun v _ => i - (intOf v).toNat)
      case atStart => exact ⟨0, q, rfl, by omega, rfl⟩
      case round =>
        clear hc hA1
        obtain ⟨k, q2, rfl, hk, rfl⟩ := hrel
        have hA2 := hA
        obtain ⟨b3, off3, e3, hc⟩ := hA2.atS Hx.out
        injection e3 with e3
        injection e3 with e4 e5 _
        subst e4 e5
        by_cases hki : k < i
        · obtain ⟨y, Hy⟩ : ∃ y, Hid (ns[k]? = some y) := ⟨_, Lib.hid (List.getElem?_eq_getElem (by have := Hl.out; omega))⟩
          obtain ⟨b2, off2, e2, hc2⟩ := hA2.atS Hy.out
          injection e2 with e2
          injection e2 with e3 e4 _
          subst e3 e4
          have hyx : y ≠ x := HD.out i k x y Hx.out Hy.out hki
          have q1 : ((bytesOf y).toList == (bytesOf x).toList) = false := by rw [ByteArray.toList_eq, ByteArray.toList_eq, bytesOf_list, bytesOf_list]; exact beq_eq_false_iff_ne.2 hyx
          have q2 : decide (bytesOf y = bytesOf x) = false := decide_eq_false (fun k => hyx (by have := congrArg (fun b => b.data.toList) k; simpa [bytesOf_list] using this))
          have hkn : k < n := by omega
          clear hyx
          go_wp2_with fail
          go_quiet (fail)
          go_wp2
          go_roundw
          case rel => exact ⟨k + 1, _, by go_num, by omega, by first | rfl | exact World.drewN_drewN _ _ _⟩
          case measure => simp [intOf]; omega
        · obtain rfl : k = i := by omega
          go_wp2
          go_roundw
          case rel => exact ⟨k + 1, _, by go_num, by omega, by first | rfl | exact World.drewN_drewN _ _ _⟩
          case measure => simp [intOf]; omega
    · obtain rfl : i = n := by omega
      go_wp2
      go_ret
      exact ⟨rfl, q, rfl⟩
end Go.Proofs.YtdnkignhenkamaaGreatDoor

/- -/
namespace Go.Proofs.YtdnkignhenkamaaGreatDoor
open Go.RowKit Go.Maps
structure Byt (w : World) (b : Nat) (L : List UInt8) : Prop where
  cell : ∀ j (h : j < L.length), w.cell? ⟨b, j, none⟩ = some (.int .u8 ((L[j]'h).toNat : Int))
  free : ∀ j, j < L.length → w.frozen? ⟨b, j, none⟩ = false
theorem Byt.set_ {w : World} {b : Nat} {L : List UInt8} (h : Byt w b L) {i : Nat} (hi : i < L.length) (c : UInt8) (v : Int) (hv : v = (c.toNat : Int)) : Byt (w.setCell ⟨b, i, none⟩ (.int .u8 v)) b (L.set i c) := by
  subst hv
  refine ⟨fun j hj => ?_, fun j hj => ?_⟩
  · rw [List.length_set] at hj
    by_cases e : i = j
    · subst e
      rw [World.cell?_setCell_same _ _ _ (h.cell i hi)]; simp
    · rw [World.cell?_setCell_other _ _ _ _ (fun k => e (by injection k)), h.cell j hj]; simp [List.getElem_set_ne e]
  · rw [List.length_set] at hj
    rw [World.frozen?_setCell]; exact h.free j hj
theorem byt_world (w : World) (l : List UInt8) : Byt (Lib.bytesWorld w 5 (bytesOf l)) w.heap.size l := by
  refine ⟨fun j hj => ?_, fun j hj => ?_⟩
  · have h1 := Lib.bytesWorld_cell w 5 (bytesOf l) j (by rw [bytesOf_size]; exact hj)
    rw [bytesOf_list, List.getD_eq_getElem?_getD, List.getElem?_eq_getElem hj] at h1
    exact h1
  · unfold World.frozen?
    rw [Lib.bytesWorld_at_new]
    have hc : l.length ≤ (Lib.bytesCells w 5 (bytesOf l)).size := by
      simp [Lib.bytesCells]
      rw [bytesOf_size]; omega
    simp; omega
set_option maxRecDepth 100000 in
set_option maxHeartbeats 2000000 in
theorem vspaced_any (l : List UInt8) (w : World) (hs : l.length ≤ 1000000) : Calls Tryz.prog 137 #[.string (bytesOf l)] w fun e w' => e = .returned (.string (bytesOf (spcL l))) ∧ Below w.heap.size w w' := by
  have hcv := fun W => Lib.run_convert_string_bytes (P := Tryz.prog) W 9 75 5 (bytesOf l) Tryz.underlying9 Tryz.underlying75 Tryz.underlying5
  have hsz : (bytesOf l).size = l.length := bytesOf_size l
  have Hlen : Hid ((spcL l).length = l.length) := Lib.hid (by unfold spcL; rw [List.length_map])
  go_enter Tryz.func137, Tryz.ntmps137
  go_wp2
  have hby := byt_world w l
  have hbw := below_bytesWorld w 5 (bytesOf l)
  generalize Lib.bytesWorld w 5 (bytesOf l) = w1 at hby hbw ⊢
  clear hcv
  go_loopw [4] (fun v wr => ∃ i : Nat, v = .int .i64 i ∧ i ≤ l.length ∧ Byt wr w.heap.size ((spcL l).take i ++ l.drop i) ∧ Below w.heap.size w wr) (fun v _ => l.length - (intOf v).toNat)
  case atStart => exact ⟨0, rfl, by omega, by simpa using hby, hbw⟩
  case round =>
    clear hby hbw
    obtain ⟨i, rfl, hi, hB, hb⟩ := hrel
    have hll : ((spcL l).take i ++ l.drop i).length = l.length := by rw [List.length_append, List.length_take, List.length_drop, Hlen.out]; omega
    by_cases hlt : i < l.length
    · obtain ⟨x, Hx⟩ : ∃ x, Hid (l[i]? = some x) := ⟨_, Lib.hid (List.getElem?_eq_getElem hlt)⟩
      have hgx : ((spcL l).take i ++ l.drop i)[i]'(by omega) = x := by
        have h1 : ((spcL l).take i ++ l.drop i)[i]? = some x := by
          rw [List.getElem?_append_right (by rw [List.length_take, Hlen.out]; omega), List.length_take, Hlen.out, Nat.min_eq_left (by omega), Nat.sub_self, List.getElem?_drop]; exact Hx.out
        obtain ⟨_, h2⟩ := List.getElem?_eq_some_iff.1 h1
        exact h2
      have hc := hB.cell i (by omega)
      rw [hgx] at hc
      have hf := hB.free i (by omega)
      have hnext : ∀ y, y = (if x = 9 then 32 else x) → ((spcL l).take i ++ l.drop i).set i y = (spcL l).take (i + 1) ++ l.drop (i + 1) := fun y hy => by
        have h1 : (spcL l)[i]? = some y := by unfold spcL; rw [List.getElem?_map, Hx.out, hy]; rfl
        rw [drop_at Hx.out, List.take_add_one, h1]
        have h2 : ((spcL l).take i).length = i := by rw [List.length_take, Hlen.out]; omega
        have h3 := set_mid ((spcL l).take i) x y (l.drop (i + 1))
        rw [h2] at h3
        rw [h3]; simp
      by_cases hx9 : x = 9
      · have hz : ((x.toNat : Int) == 9) = true := by rw [hx9]; rfl
        have HN := Lib.hid (hnext 32 (by rw [if_pos hx9]))
        have HB := Lib.hid (hB.set_ (i := i) (by omega) 32 32 rfl)
        rw [HN.out] at HB
        clear hnext hx9 hgx
        go_wp2
        go_roundw
        case rel => exact ⟨i + 1, by go_num, by omega, HB.out, hb.setCell (p := ⟨w.heap.size, i, none⟩) (Nat.le_refl _) _⟩
        case measure => simp [intOf]; omega
      · have hz : ((x.toNat : Int) == 9) = false := beq_eq_false_iff_ne.2 (fun e => hx9 ((u8_eq (n := 9) (by omega)).2 (by omega)))
        have HN := Lib.hid (hnext x (by rw [if_neg hx9]))
        have hsame : ((spcL l).take i ++ l.drop i).set i x = (spcL l).take i ++ l.drop i := by
          conv => lhs; rw [← hgx]
          exact List.set_getElem_self _
        rw [hsame] at HN
        clear hnext hx9 hgx hsame
        go_wp2
        go_roundw
        case rel => exact ⟨i + 1, by go_num, by omega, by rw [← HN.out]; exact hB, hb⟩
        case measure => simp [intOf]; omega
    · have HE : Hid ((spcL l).take i ++ l.drop i = spcL l) := Lib.hid (by rw [List.take_of_length_le (by rw [Hlen.out]; omega), List.drop_of_length_le (by omega), List.append_nil])
      rw [HE.out] at hB
      have hcb := fun c => run_convert_bytes_back (P := Tryz.prog) wr 75 9 5 ⟨w.heap.size, 0, none⟩ c (spcL l) Tryz.underlying75 Tryz.underlying5 Tryz.underlying9 (fun k hk => by
        have e : (⟨w.heap.size, 0, none⟩ : Addr).add k = ⟨w.heap.size, k, none⟩ := by
          unfold Addr.add
          split
          · rename_i h0; rw [h0]
          · simp
        rw [e]; exact hB.cell k hk)
      rw [Hlen.out] at hcb
      go_wp2
      go_ret
      exact ⟨rfl, hb⟩
theorem take_sub {l : List UInt8} {a b : Nat} : (bytesOf l).extract a b = bytesOf ((l.drop a).take (b - a)) := ext_bytes2 l a b
set_option maxRecDepth 100000 in
set_option maxHeartbeats 2000000 in
theorem vLines_any (t : List UInt8) (w : World) (ht : t.length ≤ 1000000) :
    Calls Tryz.prog 110 #[.string (bytesOf t)] w fun e w' => ∃ A n c, e = .returned (.slice A n c) ∧ Own w' w.heap.size 9 1 A n c ((splitL t).map encNm) ∧ Below w.heap.size w w' := by
  obtain ⟨i0, hi0, hz0, hz1, hz2⟩ := info_parts info_cloneS
  have hsz : (bytesOf t).size = t.length := bytesOf_size t
  go_enter Tryz.func110, Tryz.ntmps110
  go_wp2
  go_loopw [3, 4, 5] (fun a f v wr => ∃ (i frm : Nat) (done : List (List UInt8)) (A : Option Addr) (n c : Nat), a = .slice A n c ∧ f = .int .i64 frm ∧ v = .int .i64 i ∧ i ≤ t.length ∧ n ≤ i ∧ frm ≤ i ∧ Hid (LinesAt t i frm done) ∧ Own wr w.heap.size 9 1 A n c (done.map encNm) ∧ Below w.heap.size w wr) (fun _ _ v _ => t.length - (intOf v).toNat)
  case atStart => exact ⟨0, 0, [], none, 0, 0, rfl, rfl, rfl, by omega, by omega, by omega, LinesAt.start t, Own.nil_ _ _ _ _, Below.refl _ _⟩
  case round =>
    obtain ⟨i, frm, done, A, n, c, rfl, rfl, rfl, hi, hni, hfi, HL, ho, hb⟩ := hrel
    have hszr := hb.size
    by_cases hlt : i < t.length
    · have hp : i < (bytesOf t).size := by omega
      have hix := index_at (bytesOf t) i i rfl hp
      obtain ⟨x, hx⟩ : ∃ x, (bytesOf t)[i]'hp = x := ⟨_, rfl⟩
      have Hx : Hid (t[i]? = some x) := Lib.hid (by have := get_list hp; rw [bytesOf_list, hx] at this; exact this)
      have hgi : (((bytesOf t)[i]'hp).toNat : Int) = (x.toNat : Int) := by rw [hx]
      rw [hx] at hix
      clear hx
      by_cases hx10 : x = 10
      · have hz : ((x.toNat : Int) == 10) = true := by rw [hx10]; rfl
        have HL' := Lib.hid (LinesAt.line HL.out (by rw [Hx.out, hx10]))
        have HX := Lib.hid (take_sub (l := t) (a := frm) (b := i))
        clear hx10
        go_wp2_with (at_builtin; go_must (refine wpList_app rfl (.tmp 16) (.tmp 21) _ rfl w.heap.size 9 i0 _ 1 16 Tryz.underlying69 hi0 hz0 hz1 hz2 rfl (by omega) A n c (done.map encNm) rfl (ho.alloc _) _ 1 1 [encNm ((t.drop frm).take (i - frm))] rfl rfl (Rd.newAt (by simp) (by simp [encNm, HX.out])) (encNm_ok [(t.drop frm).take (i - frm)]) (by unfold maxLen; omega) (by omega) (by simp; omega) ?_); intro A3 c3 w3 ho3 hg3 hA3; have hb3 := below_app (hb.alloc (by omega) _) hg3 (by simp; omega) (fun a ha => (ho.lt a ha).1); clear hg3)
        have Ho3 : Own w3 w.heap.size 9 1 A3 (n + 1) c3 ((done ++ [(t.drop frm).take (i - frm)]).map encNm) := by rw [List.map_append]; exact ho3
        clear ho3
        go_roundw
        case rel => exact ⟨i + 1, i + 1, _, A3, n + 1, c3, rfl, by go_num, by go_num, by omega, by omega, by omega, HL', Ho3, hb3⟩
        case measure => simp [intOf]; omega
      · have hz : ((x.toNat : Int) == 10) = false := beq_eq_false_iff_ne.2 (fun e => hx10 ((u8_eq (n := 10) (by omega)).2 (by omega)))
        have HL' := Lib.hid (LinesAt.byte HL.out Hx.out hx10)
        clear hx10
        go_wp2
        go_roundw
        case rel => exact ⟨i + 1, frm, done, A, n, c, rfl, rfl, by go_num, by omega, by omega, by omega, HL', ho, hb⟩
        case measure => simp [intOf]; omega
    · obtain rfl : i = t.length := by omega
      have HE := Lib.hid (LinesAt.done HL.out)
      have HX := Lib.hid (ext_bytes t frm)
      rw [hsz] at HX
      go_wp2_with (at_builtin; go_must (refine wpList_app rfl (.tmp 25) (.tmp 29) _ rfl w.heap.size 9 i0 _ 1 16 Tryz.underlying69 hi0 hz0 hz1 hz2 rfl (by omega) A n c (done.map encNm) rfl (ho.alloc _) _ 1 1 [encNm (t.drop frm)] rfl rfl (Rd.newAt (by simp) (by simp [encNm, HX.out])) (encNm_ok [t.drop frm]) (by unfold maxLen; omega) (by omega) (by simp; omega) ?_); intro A3 c3 w3 ho3 hg3 hA3; have hb3 := below_app (hb.alloc (by omega) _) hg3 (by simp; omega) (fun a ha => (ho.lt a ha).1); clear hg3)
      go_ret
      exact ⟨A3, n + 1, c3, rfl, by rw [HE.out, List.map_append]; exact ho3, hb3⟩
end Go.Proofs.YtdnkignhenkamaaGreatDoor

/- -/
namespace Go.Proofs.YtdnkignhenkamaaGreatDoor
open Go.RowKit Go.Maps
theorem oblank_any (c : UInt8) (w : World) : Calls Tryz.prog 176 #[.int .u8 (c.toNat : Int)] w fun e w' => e = .returned (.bool (blkB c)) ∧ w = w' := by
  have HT := Lib.hid (@blk_true c)
  have HF := Lib.hid (@blk_false c)
  generalize (c.toNat : Int) = z at HT HF
  rcases (by omega : z = 32 ∨ z = 9 ∨ (z ≠ 32 ∧ z ≠ 9)) with h | h | ⟨h, h'⟩
  · have HV := Lib.hid (HT.out (.inl h))
    subst h
    go_enter Tryz.func176, Tryz.ntmps176
    go_wp2
    go_ret
    exact ⟨by rw [HV.out]; rfl, rfl⟩
  · have HV := Lib.hid (HT.out (.inr h))
    subst h
    go_enter Tryz.func176, Tryz.ntmps176
    go_wp2
    go_ret
    exact ⟨by rw [HV.out]; rfl, rfl⟩
  · have HV := Lib.hid (HF.out (by omega))
    have h1 : (z == 32) = false := beq_eq_false_iff_ne.2 h
    have h2 : (z == 9) = false := beq_eq_false_iff_ne.2 h'
    go_enter Tryz.func176, Tryz.ntmps176
    go_wp2
    go_ret
    exact ⟨by rw [HV.out]; rfl, rfl⟩
set_option maxRecDepth 100000 in
set_option maxHeartbeats 2000000 in
theorem otrim_any (L : List UInt8) (w : World) (hL : L.length ≤ 1000000) : Calls Tryz.prog 145 #[.string (bytesOf L)] w fun e w' => e = .returned (.string (bytesOf (trimL L))) ∧ w = w' := by
  have HTE := Lib.hid (trimL_eq L)
  go_enter Tryz.func145, Tryz.ntmps145
  go_wp2
  go_loopw [0] (fun v wr => ∃ l : List UInt8, v = .string (bytesOf l) ∧ l.length ≤ L.length ∧ Hid (l.dropWhile blkB = L.dropWhile blkB) ∧ wr = w) (fun v _ => strSize v)
  case atStart => exact ⟨L, rfl, by omega, rfl, rfl⟩
  case round =>
    obtain ⟨l, rfl, hl, HD, rfl⟩ := hrel
    have hsz : (bytesOf l).size = l.length := bytesOf_size l
    by_cases hb : ∃ c r, l = c :: r ∧ blkB c = true
    · obtain ⟨c, r, rfl, hc⟩ := hb
      have h0 : 0 < (bytesOf (c :: r)).size := by rw [hsz]; simp
      have hix := index_at (bytesOf (c :: r)) 0 0 rfl h0
      have hg : (bytesOf (c :: r))[0]'h0 = c := by have := get_list h0; rw [bytesOf_list] at this; simpa using this.symm
      rw [hg] at hix
      have hgi : (((bytesOf (c :: r))[0]'h0).toNat : Int) = (c.toNat : Int) := by rw [hg]
      have HX := Lib.hid (ext_bytes (c :: r) 1)
      rw [hsz] at HX
      have hl2 : (r.length : Int) + 1 ≤ 1000000 := by simp at hl; omega
      clear hg
      go_wp2_with (go_at_call 176; refine (oblank_any c _).mono ?_; rw [hc]; rintro e w' ⟨rfl, rfl⟩)
      go_roundw
      case rel => exact ⟨r, by first | exact congrArg Value.string HX.out | (rw [← ext_bytes (c :: r) 1]; rfl), by simp at hl; omega, Lib.hid (by rw [← HD.out, drop_blank hc]), by first | rfl | trivial⟩
      case measure => simp only [strSize, ByteArray.size_extract, bytesOf_size, List.length_cons]; omega
    · have HLD : Hid (l = L.dropWhile blkB) := Lib.hid (by
        rw [← HD.out]
        cases l with
        | nil => rfl
        | cons c r =>
          have : blkB c = false := by
            cases hq : blkB c with
            | false => rfl
            | true => exact absurd ⟨c, r, rfl, hq⟩ hb
          exact (dropWhile_stop this).symm)
      have HTR : Hid (trimL L = trimR l) := Lib.hid (by rw [HTE.out, HLD.out])
      have hstop : l = [] ∨ ∃ c r, l = c :: r ∧ blkB c = false := by
        cases l with
        | nil => exact .inl rfl
        | cons c r =>
          refine .inr ⟨c, r, rfl, ?_⟩
          cases hq : blkB c with
          | false => rfl
          | true => exact absurd ⟨c, r, rfl, hq⟩ hb
      clear hb HD HLD
      rcases hstop with rfl | ⟨c, r, rfl, hc⟩
      · have HT0 : Hid (trimL L = []) := Lib.hid (by rw [HTR.out]; rfl)
        have hz0 : (bytesOf []).size = 0 := rfl
        go_wp2_with fail
        go_loopw [0] (fun v wq => v = .string (bytesOf []) ∧ wq = wr) (fun _ _ => 0)
        case atStart => exact ⟨rfl, rfl⟩
        case round =>
          obtain ⟨rfl, rfl⟩ := hrel
          go_wp2
          go_ret
          exact ⟨by rw [HT0.out]; rfl, rfl⟩
      · have h0 : 0 < (bytesOf (c :: r)).size := by rw [hsz]; simp
        have hix := index_at (bytesOf (c :: r)) 0 0 rfl h0
        have hg : (bytesOf (c :: r))[0]'h0 = c := by have := get_list h0; rw [bytesOf_list] at this; simpa using this.symm
        rw [hg] at hix
        have hgi : (((bytesOf (c :: r))[0]'h0).toNat : Int) = (c.toNat : Int) := by rw [hg]
        clear hg
        go_wp2_with (go_at_call 176; refine (oblank_any c _).mono ?_; rw [hc]; rintro e w' ⟨rfl, rfl⟩)
        go_loopw [0] (fun v wq => ∃ l : List UInt8, v = .string (bytesOf l) ∧ l.length ≤ L.length ∧ Hid (trimR l = trimL L) ∧ wq = wr) (fun v _ => strSize v)
        case atStart => exact ⟨c :: r, rfl, hl, Lib.hid HTR.out.symm, rfl⟩
        case round =>
          clear hix hgi h0
          obtain ⟨l, rfl, hl2, HD, rfl⟩ := hrel
          have hsz2 : (bytesOf l).size = l.length := bytesOf_size l
          rcases List.eq_nil_or_concat l with rfl | ⟨o, y, rfl⟩
          · have HT0 : Hid (trimL L = []) := Lib.hid (by rw [← HD.out]; rfl)
            have hz0 : (bytesOf []).size = 0 := rfl
            go_wp2
            go_ret
            exact ⟨by rw [HT0.out]; rfl, rfl⟩
          · rw [List.concat_eq_append] at *
            have hlast : (o ++ [y]).getLast? = some y := by simp
            have hol : (o ++ [y]).length = o.length + 1 := by simp
            rw [hol] at hsz2 hl2
            have hp : o.length < (bytesOf (o ++ [y])).size := by omega
            have hix := index_at (bytesOf (o ++ [y])) ((o.length : Int) + 1 - 1) o.length (by omega) hp
            have hix2 := index_at (bytesOf (o ++ [y])) (o.length : Int) o.length rfl hp
            have hg : (bytesOf (o ++ [y]))[o.length]'hp = y := by have := get_list hp; rw [bytesOf_list] at this; simpa using this.symm
            rw [hg] at hix hix2
            have hgi : (((bytesOf (o ++ [y]))[o.length]'hp).toNat : Int) = (y.toNat : Int) := by rw [hg]
            clear hg
            cases hy : blkB y with
            | true =>
              have HX : Hid ((bytesOf (o ++ [y])).extract 0 o.length = bytesOf o) := Lib.hid (by rw [ext_bytes0]; simp)
              have HD' : Hid (trimR o = trimL L) := Lib.hid (by rw [← HD.out, (trim_last hlast).1 hy, hol, Nat.add_sub_cancel]; simp)
              go_wp2_with (go_at_call 176; refine (oblank_any y _).mono ?_; rw [hy]; rintro e w' ⟨rfl, rfl⟩)
              go_roundw
              case rel => exact ⟨o, congrArg Value.string HX.out, by omega, HD', by first | rfl | trivial⟩
              case measure => simp only [strSize, ByteArray.size_extract, bytesOf_size, List.length_append, List.length_singleton]; omega
            | false =>
              have HD' : Hid (trimL L = o ++ [y]) := Lib.hid (by rw [← HD.out, (trim_last hlast).2 hy])
              go_wp2_with (go_at_call 176; refine (oblank_any y _).mono ?_; rw [hy]; rintro e w' ⟨rfl, rfl⟩)
              go_ret
              exact ⟨by rw [HD'.out]; rfl, rfl⟩
set_option maxRecDepth 100000 in
set_option maxHeartbeats 2000000 in
theorem oLines_any (t : List UInt8) (w : World) (ht : t.length ≤ 1000000) :
    Calls Tryz.prog 114 #[.string (bytesOf t)] w fun e w' => ∃ A n c, e = .returned (.slice A n c) ∧ Own w' w.heap.size 9 1 A n c ((splitL t).map encNm) ∧ Below w.heap.size w w' := by
  obtain ⟨i0, hi0, hz0, hz1, hz2⟩ := info_parts info_cloneS
  have hsz : (bytesOf t).size = t.length := bytesOf_size t
  go_enter Tryz.func114, Tryz.ntmps114
  go_wp2
  go_loopw [3, 4, 5] (fun a f v wr => ∃ (i frm : Nat) (done : List (List UInt8)) (A : Option Addr) (n c : Nat), a = .slice A n c ∧ f = .int .i64 frm ∧ v = .int .i64 i ∧ i ≤ t.length ∧ n ≤ i ∧ frm ≤ i ∧ Hid (LinesAt t i frm done) ∧ Own wr w.heap.size 9 1 A n c (done.map encNm) ∧ Below w.heap.size w wr) (fun _ _ v _ => t.length - (intOf v).toNat)
  case atStart => exact ⟨0, 0, [], none, 0, 0, rfl, rfl, rfl, by omega, by omega, by omega, LinesAt.start t, Own.nil_ _ _ _ _, Below.refl _ _⟩
  case round =>
    obtain ⟨i, frm, done, A, n, c, rfl, rfl, rfl, hi, hni, hfi, HL, ho, hb⟩ := hrel
    have hszr := hb.size
    by_cases hlt : i < t.length
    · have hp : i < (bytesOf t).size := by omega
      have hix := index_at (bytesOf t) i i rfl hp
      obtain ⟨x, hx⟩ : ∃ x, (bytesOf t)[i]'hp = x := ⟨_, rfl⟩
      have Hx : Hid (t[i]? = some x) := Lib.hid (by have := get_list hp; rw [bytesOf_list, hx] at this; exact this)
      have hgi : (((bytesOf t)[i]'hp).toNat : Int) = (x.toNat : Int) := by rw [hx]
      rw [hx] at hix
      clear hx
      by_cases hx10 : x = 10
      · have hz : ((x.toNat : Int) == 10) = true := by rw [hx10]; rfl
        have HL' := Lib.hid (LinesAt.line HL.out (by rw [Hx.out, hx10]))
        have HX := Lib.hid (take_sub (l := t) (a := frm) (b := i))
        clear hx10
        go_wp2_with (at_builtin; go_must (refine wpList_app rfl (.tmp 16) (.tmp 21) _ rfl w.heap.size 9 i0 _ 1 16 Tryz.underlying69 hi0 hz0 hz1 hz2 rfl (by omega) A n c (done.map encNm) rfl (ho.alloc _) _ 1 1 [encNm ((t.drop frm).take (i - frm))] rfl rfl (Rd.newAt (by simp) (by simp [encNm, HX.out])) (encNm_ok [(t.drop frm).take (i - frm)]) (by unfold maxLen; omega) (by omega) (by simp; omega) ?_); intro A3 c3 w3 ho3 hg3 hA3; have hb3 := below_app (hb.alloc (by omega) _) hg3 (by simp; omega) (fun a ha => (ho.lt a ha).1); clear hg3)
        have Ho3 : Own w3 w.heap.size 9 1 A3 (n + 1) c3 ((done ++ [(t.drop frm).take (i - frm)]).map encNm) := by rw [List.map_append]; exact ho3
        clear ho3
        go_roundw
        case rel => exact ⟨i + 1, i + 1, _, A3, n + 1, c3, rfl, by go_num, by go_num, by omega, by omega, by omega, HL', Ho3, hb3⟩
        case measure => simp [intOf]; omega
      · have hz : ((x.toNat : Int) == 10) = false := beq_eq_false_iff_ne.2 (fun e => hx10 ((u8_eq (n := 10) (by omega)).2 (by omega)))
        have HL' := Lib.hid (LinesAt.byte HL.out Hx.out hx10)
        clear hx10
        go_wp2
        go_roundw
        case rel => exact ⟨i + 1, frm, done, A, n, c, rfl, rfl, by go_num, by omega, by omega, by omega, HL', ho, hb⟩
        case measure => simp [intOf]; omega
    · obtain rfl : i = t.length := by omega
      have HE := Lib.hid (LinesAt.done HL.out)
      have HX := Lib.hid (ext_bytes t frm)
      rw [hsz] at HX
      go_wp2_with (at_builtin; go_must (refine wpList_app rfl (.tmp 25) (.tmp 29) _ rfl w.heap.size 9 i0 _ 1 16 Tryz.underlying69 hi0 hz0 hz1 hz2 rfl (by omega) A n c (done.map encNm) rfl (ho.alloc _) _ 1 1 [encNm (t.drop frm)] rfl rfl (Rd.newAt (by simp) (by simp [encNm, HX.out])) (encNm_ok [t.drop frm]) (by unfold maxLen; omega) (by omega) (by simp; omega) ?_); intro A3 c3 w3 ho3 hg3 hA3; have hb3 := below_app (hb.alloc (by omega) _) hg3 (by simp; omega) (fun a ha => (ho.lt a ha).1); clear hg3)
      go_ret
      exact ⟨A3, n + 1, c3, rfl, by rw [HE.out, List.map_append]; exact ho3, hb3⟩
end Go.Proofs.YtdnkignhenkamaaGreatDoor

