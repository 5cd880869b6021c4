/-
  Several texts in one, in their build order: Wh, Ga, Gb, Gd, Gf, Gh, Go, Gp, Gi, Wi, Wj, Vb, Qt, Vd, PrB.
-/
import Derived.Deep.CutRange
import Derived.ScopeJumps
import Derived.WalkMore
import Derived.Test.YtdnkignhenkamaaGreatDoorZWf
import Derived.Test.YtdnkignhenkamaaGreatDoorZWg
import Derived.Test.YtdnkignhenkamaaGreatDoorZ1a
import Derived.Test.YtdnkignhenkamaaGreatDoorZ3a
import Derived.Test.YtdnkignhenkamaaGreatDoorZShelf
import Derived.Test.YtdnkignhenkamaaGreatDoorZ2a
import Derived.Test.YtdnkignhenkamaaGreatDoorZ0a
import Derived.Test.YtdnkignhenkamaaGreatDoorZRdr
import Derived.Test.YtdnkignhenkamaaGreatDoorZWa
import Derived.Test.YtdnkignhenkamaaGreatDoorZPrA
/- -/
namespace Go.Proofs.YtdnkignhenkamaaGreatDoor
open Go.RowKit Go.Maps
structure Env (w : World) : Prop where
  tabs : Tabs w
  max : MaxW w
  tabB : TabB w
theorem Env.below {w w' : World} (h : Env w) (hb : Below w.heap.size w w') : Env w' := ⟨h.tabs.below hb, h.max.below hb, cell_keep h.tabB hb⟩
theorem wpList_insert_own {H : Type} {P : Program} (w : World) {ops : Array Oper} {rest : List Oper} {o : Oper} {a : Act} {Q : Exit → Act → World → Prop}
    (hg : o.guard = none) (m x v : Operand) (t : TypeId) (hop : o.op = Op.insert t m x v)
    (k e : TypeId) (K : Keyed P k) (ht : P.underlying t = some (.map k e)) (R : Value → Option (DataW H × List MemPlace)) (b n : Nat) (D : DataW H)
    (hm : a.eval m = .map (some b)) (hown : w.ownsMap P k R b n D) (hn : n < maxLen) (key val : Value) (kl : Lit) (hx : a.eval x = key) (hv : a.eval v = val) (hkey : keyOf P k key = some kl)
    (d : DataW H) (ps : List MemPlace) (hval : R val = some (d, ps))
    (hK : ∀ w', w'.ownsMap P k R b (n + 1) (D.put kl d) → w.grownBy w' (some b) → wpList P ops Q rest (a.put o.dst undef) w') :
    wpList P ops Q (o :: rest) a w := by
  refine wpList_plain hg fun K' hK' => ?_
  obtain ⟨w', hrun, r1, r2⟩ := hown.update K ht hn hkey hval
  unfold Oper.wp
  simp [execOp, hop, hm, hx, hv, hrun, Result.andThen]
  exact hK' _ _ (hK w' r1 r2)
theorem mem_lenL : ∀ {L : List (List UInt8)} {l : List UInt8}, l ∈ L → l.length + 1 ≤ lenL L
  | [], l, h => by simp at h
  | a :: L, l, h => by
    rcases List.mem_cons.1 h with rfl | h
    · simp only [lenL]; omega
    · have := mem_lenL h; simp only [lenL]; omega
theorem line_len {t : List UInt8} {i : Nat} {l : List UInt8} (h : (splitL t)[i]? = some l) : l.length ≤ t.length := by
  have := mem_lenL (List.mem_of_getElem? h); rw [split_len] at this; omega
theorem addL_err {d : DbP} {n s : List UInt8} {k : Int} (h : addL d n s = .error k) : 6 ≤ k := by
  unfold addL at h
  split at h
  · injection h with h; omega
  · split at h
    · rename_i e he
      injection h with h; subst h
      unfold parseE at he
      split at he
      · rename_i y hy
        injection he with he
        have := parse_code hy; omega
      · cases he
    · split at h
      · split at h
        · injection h with h; omega
        · cases h
      · split at h
        · injection h with h; omega
        · split at h
          · injection h with h; omega
          · cases h
theorem addS_err {d : DbP} {u : List UInt8} {k : Int} (h : addS d u = .error k) : 6 ≤ k := by
  unfold addS at h
  split at h
  · injection h with h; omega
  · exact addL_err h
theorem lineU_len (l : List UInt8) : (lineU l).length ≤ l.length := by
  unfold lineU
  refine Nat.le_trans (trimL_len _) ?_
  rw [List.length_take]; omega
def NewEnd (r : Except (Int × Nat) DbP) (e : Ending) (w' : World) : Prop :=
  match r with
  | .error x => e = .returned (.tuple #[.pointer none, .int .i64 x.1, .int .i64 (x.2 : Int)])
  | .ok d => ∃ p, e = .returned (.tuple #[.pointer (some ⟨p, 0, none⟩), .int .i64 0, .int .i64 0]) ∧ DbAt w' p d
theorem NewEnd.err {r : Except (Int × Nat) DbP} {k : Int} {i : Nat} {w' : World} (h : r = .error (k, i)) : NewEnd r (.returned (.tuple #[.pointer none, .int .i64 k, .int .i64 (i : Int)])) w' := by rw [h]; exact rfl
theorem NewEnd.fine {r : Except (Int × Nat) DbP} {d : DbP} {p : Nat} {w' : World} (h : r = .ok d) (hd : DbAt w' p d) : NewEnd r (.returned (.tuple #[.pointer (some ⟨p, 0, none⟩), .int .i64 0, .int .i64 0])) w' := by rw [h]; exact ⟨p, rfl, hd⟩
theorem own_one {w : World} {t : TypeId} {u : Value} {base : Nat} (hb : base ≤ w.heap.size) : Own (w.alloc (.cells #[u] t)) base t 1 (some ⟨w.heap.size, 0, none⟩) 1 1 [[u]] :=
  ⟨rfl, by simp, by simp, .inr ⟨w.heap.size, 1, #[u], rfl, hb, heap_alloc_new _ _, Nat.le_refl _, by unfold maxLen; omega, rfl, by simp⟩⟩
theorem dbX_first {w w2 : World} {D : DataW Unit} (hD : D = (DataW.map []).put (.string otherL) (.lit (.int .i64 0)))
    (hown : w2.ownsMap Tryz.prog 9 (plainElem (H := Unit) Tryz.prog 3) (w.heap.size + 1) 1 D) (hg : ((w.alloc (.cells #[.string (bytesOf otherL)] 9)).alloc (.map #[] 0)).grownBy w2 (some (w.heap.size + 1))) :
    DbX ((w2.alloc (.cells #[.slice none 0 0] 74)).alloc (.cells #[.slice (some ⟨w.heap.size, 0, none⟩) 1 1, .map (some (w.heap.size + 1)), .slice (some ⟨w2.heap.size, 0, none⟩) 1 1, .slice none 0 0] 106)) w.heap.size (w2.heap.size + 1) (w2.heap.size + 2)
      (some ⟨w.heap.size, 0, none⟩) 1 1 (w.heap.size + 1) 1 D (some ⟨w2.heap.size, 0, none⟩) 1 1 [(none, 0, 0)] [otherL] [[]] ∧
    Below w.heap.size w ((w2.alloc (.cells #[.slice none 0 0] 74)).alloc (.cells #[.slice (some ⟨w.heap.size, 0, none⟩) 1 1, .map (some (w.heap.size + 1)), .slice (some ⟨w2.heap.size, 0, none⟩) 1 1, .slice none 0 0] 106)) := by
  have hs2 := hg.size
  simp at hs2
  have n1 : Own (w.alloc (.cells #[.string (bytesOf otherL)] 9)) w.heap.size 9 1 (some ⟨w.heap.size, 0, none⟩) 1 1 ([otherL].map encNm) := own_one (Nat.le_refl _)
  have n2 := ((n1.alloc (.map #[] 0)).grown hg (fun a ha e => by injection ha with ha; subst ha; injection e with e; simp only at e; omega))
  have s3 : Own (w2.alloc (.cells #[.slice none 0 0] 74)) w.heap.size 74 1 (some ⟨w2.heap.size, 0, none⟩) 1 1 ([((none : Option Addr), 0, 0)].map encSl) := own_one (by omega)
  refine ⟨⟨?_, by omega, (n2.alloc _).alloc _, (hown.alloc _).alloc _, Nat.le_refl _, by omega, ?_, s3.alloc _, ⟨rfl, ?_⟩, by omega, by omega, fun a ha => by injection ha with ha; subst ha; show w.heap.size ≠ w2.heap.size + 2; omega, fun a ha => by injection ha with ha; subst ha; show w2.heap.size ≠ w2.heap.size + 2; omega⟩, ?_⟩
  · have := Blk.new (w2.alloc (.cells #[.slice none 0 0] 74)) 106 #[.slice (some ⟨w.heap.size, 0, none⟩) 1 1, .map (some (w.heap.size + 1)), .slice (some ⟨w2.heap.size, 0, none⟩) 1 1, .slice none 0 0]
    simpa using this
  · rw [hD]; exact MapIs.nil_.put otherL rfl
  · intro k x l hx hl
    match k, hx, hl with
    | 0, hx, hl => simp at hx hl; subst hx; subst hl; exact Own.nil_ _ _ _ _
    | k + 1, hx, hl => simp at hx
  · have h1 : Below w.heap.size w ((w.alloc (.cells #[.string (bytesOf otherL)] 9)).alloc (.map #[] 0)) := ((Below.refl _ _).alloc (Nat.le_refl _) _).alloc (by simp) _
    have h2 := h1.grown hg (by simp; omega) (fun k hk => by injection hk with hk; omega)
    exact (h2.alloc (by omega) _).alloc (by simp; omega) _
set_option maxRecDepth 100000 in
set_option maxHeartbeats 8000000 in
theorem wNew_any (t : List UInt8) (w : World) (hE : Env w) (ht : t.length ≤ maxLen) :
    Calls Tryz.prog 87 #[.string (bytesOf t)] w fun e w' => NewEnd (newP t) e w' ∧ Below w.heap.size w w' := by
  have hsz : (bytesOf t).size = t.length := bytesOf_size t
  have hmm := @run_makeMap Tryz.prog
  unfold maxLen at ht
  by_cases hl : 65536 < t.length
  · have HE := Lib.hid (newP_long hl)
    go_enter Tryz.func87, Tryz.ntmps87
    go_wp2
    go_ret3
    exact ⟨NewEnd.err HE.out, Below.refl _ _⟩
  · have HG := Lib.hid (newP_go hl)
    obtain ⟨m, hm⟩ := hE.max
    have Hm := Lib.hid hm
    clear hm
    go_enter Tryz.func87, Tryz.ntmps87
    have hkey : keyOf Tryz.prog 9 (.string ⟨#[79, 116, 104, 101, 114]⟩) = some (.string otherL) := keyS (n := otherL) (by decide)
    have ho0 := World.ownsMap_made (H := Unit) (w.alloc (.cells #[.string (bytesOf otherL)] 9)) Tryz.prog 9 (plainElem (H := Unit) Tryz.prog 3)
    rw [show (w.alloc (.cells #[.string (bytesOf otherL)] 9)).heap.size = w.heap.size + 1 by simp] at ho0
    go_wp2_with ((refine wpList_insert_own _ rfl _ _ _ 104 rfl 9 3 keyedS Tryz.underlying104 _ (w.heap.size + 1) 0 (.map []) rfl ho0 (by unfold maxLen; omega) _ _ (.string otherL) rfl rfl hkey _ [] (plainElem_int Tryz.underlying3 (WalkArith.wf_i64 (by omega))) ?_; intro w2 hown2 hg2))
    have hF := dbX_first rfl hown2 hg2
    have hg2s := hg2.size
    obtain ⟨hX, hB0⟩ := hF
    have hsx : w2.heap.size + 2 = (((w2.alloc (.cells #[.slice none 0 0] 74)).alloc (.cells #[.slice (some ⟨w.heap.size, 0, none⟩) 1 1, .map (some (w.heap.size + 1)), .slice (some ⟨w2.heap.size, 0, none⟩) 1 1, .slice none 0 0] 106))).heap.size := by simp
    generalize ((w2.alloc (.cells #[.slice none 0 0] 74)).alloc (.cells #[.slice (some ⟨w.heap.size, 0, none⟩) 1 1, .map (some (w.heap.size + 1)), .slice (some ⟨w2.heap.size, 0, none⟩) 1 1, .slice none 0 0] 106)) = w3 at hX hB0 hsx ⊢
    rw [hsx] at hX
    have HS := Lib.hid (Tryz.strings_Split (bytesOf t) ⟨#[10]⟩ m w3 (by omega) (cell_keep Hm.out hB0) (show 1 ≤ 1 by omega))
    obtain ⟨L, HL⟩ : ∃ L, Hid (splitL t = L) := ⟨_, rfl⟩
    have hsp := split_lines (bytesOf t)
    have hc0 := Lib.splitB_all ⟨#[10]⟩ (show 1 ≤ 1 by omega) 0 _ (bytesOf t) rfl
    rw [bytesOf_list, HL.out, show bytesOf [10] = ⟨#[10]⟩ from rfl] at hsp
    generalize Lib.splitB ⟨#[10]⟩ 0 (Lib.countB (bytesOf t) ⟨#[10]⟩) (bytesOf t) = SP at HS hsp hc0
    have hcount : Lib.countB (bytesOf t) ⟨#[10]⟩ + 1 = L.length := by rw [← hc0, ← hsp, List.length_map]
    rw [hcount] at HS
    have HLl := Lib.hid (fun i l (h : L[i]? = some l) => line_len (t := t) (i := i) (l := l) (by rw [HL.out]; exact h))
    have HLn : Hid (L.length ≤ 65537) := Lib.hid (by rw [← HL.out, splitL_count]; have := List.count_le_length (a := (10 : UInt8)) (l := t); omega)
    have HSP : Hid (∀ i l, L[i]? = some l → SP[i]? = some (bytesOf l)) := Lib.hid (fun i l h => by
      rw [← hsp, List.getElem?_map] at h
      cases hq : SP[i]? with
      | none => rw [hq] at h; cases h
      | some s => rw [hq] at h; simp at h; rw [← h, bytesOf_data])
    have HNP : Hid (newP t = linesGo DbP.first L 0) := Lib.hid (by rw [HG.out, HL.out])
    have hX4 := hX.below ((Below.refl _ _).alloc (Nat.le_refl _) (.cells (SP.map Value.string).toArray 9))
    have hB4 : Below w.heap.size w (w3.alloc (.cells (SP.map Value.string).toArray 9)) := hB0.alloc (by have := hB0.size; omega) _
    have hb4 := Blk.new w3 9 (SP.map Value.string).toArray
    have hx4 : w3.heap.size < (w3.alloc (.cells (SP.map Value.string).toArray 9)).heap.size := by simp
    refine HS.out.mono ?_
    rintro e w4 ⟨rfl, rfl⟩
    clear hX hB0 HS HG HL hc0 hsp hcount Hm hown2 hg2 hg2s hsx ho0 hmm hkey
    generalize w3.alloc (.cells (SP.map Value.string).toArray 9) = w4 at hX4 hB4 hb4 hx4 ⊢
    generalize w3.heap.size = x at hX4 hb4 hx4 ⊢
    generalize w2.heap.size + 1 = p at hX4 ⊢
    have hsw := hB4.size
    have HCell : Hid (∀ i l, L[i]? = some l → w4.cell? ⟨x, i, none⟩ = some (.string (bytesOf l))) := Lib.hid (fun i l h => by
      rw [hb4.cell i]; have := HSP.out i l h; simp [this])
    clear hb4 HSP
    go_wp2_with fail
    go_loopw [21] (fun v wr => ∃ (i : Nat) (d : DbP), v = .int .i64 i ∧ i ≤ L.length ∧ DbB wr w.heap.size p x d ∧ wr.heap[x]? = w4.heap[x]? ∧ Hid (NewAt L i d) ∧ Below w.heap.size w wr ∧ x < wr.heap.size) (fun v _ => L.length - (intOf v).toNat)
    case atStart => exact ⟨0, DbP.first, rfl, by omega, ⟨_, _, _, _, _, _, _, _, _, _, hX4⟩, rfl, newAt_first L, hB4, hx4⟩
    case round =>
      clear hX4
      obtain ⟨i, d, rfl, hi, hd, hxr, HN, hb, hxl⟩ := hrel
      have hszr := hb.size
      by_cases hlt : i < L.length
      · obtain ⟨l, Hl⟩ : ∃ l, Hid (L[i]? = some l) := ⟨_, Lib.hid (List.getElem?_eq_getElem hlt)⟩
        have hcell : wr.cell? ⟨x, i, none⟩ = some (.string (bytesOf l)) := (World.cell?_of_block hxr).trans (HCell.out i l Hl.out)
        have hll := HLl.out i l Hl.out
        have hlu := lineU_len l
        have HW := Lib.hid (wline_any (bytesOf l) wr (hE.tabs.below (hb.mono (Nat.le_refl _))) (by rw [bytesOf_size]; omega))
        rw [bytesOf_list] at HW
        have HN2 := HLn.out
        by_cases hu : lineU l = []
        · have hem : (bytesOf (lineU l)).toList.isEmpty = true := by rw [ByteArray.toList_eq, bytesOf_list, hu]; rfl
          have HN' := Lib.hid (newAt_next HN.out Hl.out (step_nil hu))
          clear hu
          go_wp2_with (go_at_call 107; refine HW.out.mono ?_; rintro e w5 ⟨rfl, hb5⟩)
          go_roundw
          case rel => exact ⟨i + 1, d, by go_num, by omega, hd.below hb5, (hb5.block x hxl).trans hxr, HN', below_step hb hb5 hszr, Nat.lt_of_lt_of_le hxl hb5.size⟩
          case measure => simp [intOf]; omega
        · have hem : (bytesOf (lineU l)).toList.isEmpty = false := by
            rw [ByteArray.toList_eq, bytesOf_list]
            cases hq : lineU l with
            | nil => exact absurd hq hu
            | cons a b => rfl
          have HST := Lib.hid (step_add (d := d) hu)
          clear hu
          go_wp2_with fail
          refine HW.out.mono ?_
          rintro e w5 ⟨rfl, hb5⟩
          have hb5w := below_step hb hb5 hszr
          have hx5 := Nat.lt_of_lt_of_le hxl hb5.size
          have hxr5 := (hb5.block x hxl).trans hxr
          have HA := Lib.hid (wadd_any p w.heap.size x d (lineU l) w5 (hd.below hb5) HN.out.2.2.1 hx5 hb5w.size (hE.tabs.below hb5w) (hE.max.below hb5w) (by omega))
          go_wp2_with fail
          refine HA.out.mono ?_
          rintro e w6 ⟨hk, hae⟩
          have hb6 := hb5w.trans hk.1
          cases hs : addS d (lineU l) with
          | error k =>
            rw [hs] at hae HST
            have he : e = .returned (.int .i64 k) := hae
            subst he
            have hk0 : ((k : Int) != 0) = true := by rw [bne_iff_ne]; have := addS_err hs; omega
            have HE := Lib.hid (HNP.out.trans (newAt_err HN.out Hl.out HST.out))
            clear hs hae
            go_wp2
            go_ret3
            exact ⟨NewEnd.err HE.out, hb6⟩
          | ok d' =>
            rw [hs] at hae HST
            obtain ⟨rfl, hd'⟩ := hae
            have HN' := Lib.hid (newAt_next HN.out Hl.out HST.out)
            clear hs
            go_wp2
            go_roundw
            case rel => exact ⟨i + 1, d', by go_num, by omega, hd', (hk.2 hx5).trans hxr5, HN', hb6, Nat.lt_of_lt_of_le hx5 hk.1.size⟩
            case measure => simp [intOf]; omega
      · have HE := Lib.hid (HNP.out.trans (newAt_end HN.out hlt))
        have HC := Lib.hid (wclose_any p w.heap.size x d wr hd HN.out.2.2.1 HN.out.2.2.2 hszr)
        go_wp2_with (go_at_call 109; refine HC.out.mono ?_; rintro e w5 ⟨rfl, hda, hb5⟩)
        go_ret3
        exact ⟨NewEnd.fine HE.out hda, hb.trans hb5⟩
end Go.Proofs.YtdnkignhenkamaaGreatDoor

/- -/
namespace Go.Proofs.YtdnkignhenkamaaGreatDoor
open Go.RowKit
set_option maxRecDepth 100000 in
set_option maxHeartbeats 4000000 in
theorem gdb_any (w : World) (hE : Env w) :
    Calls Tryz.prog 59 #[] w fun e w' => ∃ p, e = .returned (.pointer (some ⟨p, 0, none⟩)) ∧ DbAt w' p graphsD ∧ Below w.heap.size w w' := by
  go_enter Tryz.func59, Tryz.ntmps59
  generalize hT : ByteArray.mk _ = T
  have HN : newP T.data.toList = .ok graphsD := by rw [← hT]; exact new_K (by kernel_rfl) (by kernel_rfl)
  have hTl : T.data.toList.length ≤ maxLen := by rw [← hT]; exact of_decide_eq_true (by kernel_rfl)
  clear hT
  have HC := wNew_any T.data.toList w hE hTl
  rw [HN, show bytesOf T.data.toList = T from bytesOf_data T] at HC
  replace HC := Lib.hid HC
  clear HN hTl
  go_wp2_with fail
  refine HC.out.mono ?_
  rintro e w1 ⟨⟨p, rfl, hd⟩, hb1⟩
  go_wp2
  go_ret
  exact ⟨p, rfl, hd, hb1⟩
set_option maxHeartbeats 1000000 in
theorem gClass_any (r : Int) (w : World) (hE : Env w) : Calls Tryz.prog 24 #[.int .i32 r] w fun e w' => e = .returned (.int .i64 (gG r : Nat)) ∧ Below w.heap.size w w' := by
  have HC := Lib.hid (gdb_any w hE)
  go_enter Tryz.func24, Tryz.ntmps24
  go_wp2_with fail
  refine HC.out.mono ?_
  rintro e w1 ⟨p, rfl, hd, hb1⟩
  have HG := Lib.hid (wGet_any p graphsD r w1 hd graphsOk.1 graphsOk.2.1)
  obtain ⟨k, Hk⟩ : ∃ k, Hid (graphsD.get r = k) := ⟨_, Lib.hid rfl⟩
  rw [Hk.out] at HG
  go_wp2_with fail
  refine HG.out.mono ?_
  rintro e w2 ⟨rfl, hb2⟩
  go_wp2
  go_ret
  exact ⟨by rw [show gG r = k from Hk.out]; rfl, below_two hb1 hb2⟩
def endZ (c : Int) : Bool := c == 1 || c == 2 || c == 3
set_option maxHeartbeats 400000 in
theorem gends_any (c : Int) (w : World) : Calls Tryz.prog 88 #[.int .i64 c] w fun e w' => e = .returned (.bool (endZ c)) ∧ w = w' := by
  rcases (by omega : c = 1 ∨ c = 2 ∨ c = 3 ∨ (c ≠ 1 ∧ c ≠ 2 ∧ c ≠ 3)) with rfl | rfl | rfl | ⟨h1, h2, h3⟩
  iterate 3
    · go_enter Tryz.func88, Tryz.ntmps88
      go_wp2
      go_ret
      exact ⟨rfl, rfl⟩
  · have HV : Hid (endZ c = false) := Lib.hid (by simp [endZ, h1, h2, h3])
    have e1 := beq_eq_false_iff_ne.2 h1
    have e2 := beq_eq_false_iff_ne.2 h2
    have e3 := beq_eq_false_iff_ne.2 h3
    clear h1 h2 h3
    go_enter Tryz.func88, Tryz.ntmps88
    go_wp2
    go_ret
    exact ⟨by rw [HV.out]; rfl, rfl⟩
def joinZ (x y : Int) : Bool :=
  if (x == 1) && (y == 2) then true
  else if endZ x || endZ y then false
  else if ((y == 4) || (y == 5) || (y == 6) || (x == 7)) then true
  else if x == 8 then (y == 8) || (y == 9) || (y == 11)
  else if (x == 9) || (x == 11) then (y == 9) || (y == 10)
  else (x == 10) && (y == 10)
theorem joinZ_eq : ∀ x : Nat, x < 14 → ∀ y : Nat, y < 14 → joinZ (x : Int) (y : Int) = joinG x y := by decide
set_option maxRecDepth 100000 in
set_option maxHeartbeats 8000000 in
theorem gjoins_any (x y : Int) (w : World) : Calls Tryz.prog 61 #[.int .i64 x, .int .i64 y] w fun e w' => e = .returned (.bool (joinZ x y)) ∧ w = w' := by
  obtain ⟨x1, H1⟩ : ∃ b, Hid (((x == 1) && (y == 2)) = b) := ⟨_, Lib.hid rfl⟩
  obtain ⟨x2, H2⟩ : ∃ b, Hid (((endZ x) || (endZ y)) = b) := ⟨_, Lib.hid rfl⟩
  obtain ⟨x3, H3⟩ : ∃ b, Hid (((y == 4) || (y == 5) || (y == 6) || (x == 7)) = b) := ⟨_, Lib.hid rfl⟩
  have HW : Hid (joinZ x y = if x1 then true else if x2 then false else if x3 then true else if x == 8 then ((y == 8) || (y == 9) || (y == 11)) else if ((x == 9) || (x == 11)) then ((y == 9) || (y == 10)) else ((x == 10) && (y == 10))) := Lib.hid (by rw [← H1.out, ← H2.out, ← H3.out]; rfl)
  go_enter Tryz.func61, Tryz.ntmps61
  go_upto_region 1 with fail
  go_cut [5] from 5 (fun v wx => v = .bool x1 ∧ w = wx)
  case first =>
    cases h1 : (x == 1) with
    | true =>
      cases h2 : (y == 2) with
      | true =>
        go_wp2_with fail
        go_meet
        exact ⟨by rw [← H1.out, h1, h2] <;> rfl, rfl⟩
      | false =>
        go_wp2_with fail
        go_meet
        exact ⟨by rw [← H1.out, h1, h2] <;> rfl, rfl⟩
    | false =>
      go_wp2_with fail
      go_meet
      exact ⟨by rw [← H1.out, h1] <;> rfl, rfl⟩
  case rest =>
    obtain ⟨rfl, rfl⟩ := hcut
    cases x1 with
    | true =>
      go_wp2
      go_ret
      exact ⟨by rw [HW.out]; simp, rfl⟩
    | false =>
      go_upto_region 3 with fail
      go_cut [12] from 5 (fun v wx => v = .bool x2 ∧ w = wx)
      case first =>
        cases h1 : (endZ x) with
        | true =>
          go_wp2_with fail
          refine (gends_any _ _).mono ?_
          rw [h1]
          rintro e wn ⟨rfl, rfl⟩
          go_wp2_with fail
          go_meet
          exact ⟨by rw [← H2.out, h1] <;> rfl, rfl⟩
        | false =>
          cases h2 : (endZ y) with
          | true =>
            go_wp2_with fail
            refine (gends_any _ _).mono ?_
            rw [h1]
            rintro e wn ⟨rfl, rfl⟩
            go_wp2_with fail
            refine (gends_any _ _).mono ?_
            rw [h2]
            rintro e wn ⟨rfl, rfl⟩
            go_wp2_with fail
            go_meet
            exact ⟨by rw [← H2.out, h1, h2] <;> rfl, rfl⟩
          | false =>
            go_wp2_with fail
            refine (gends_any _ _).mono ?_
            rw [h1]
            rintro e wn ⟨rfl, rfl⟩
            go_wp2_with fail
            refine (gends_any _ _).mono ?_
            rw [h2]
            rintro e wn ⟨rfl, rfl⟩
            go_wp2_with fail
            go_meet
            exact ⟨by rw [← H2.out, h1, h2] <;> rfl, rfl⟩
      case rest =>
        obtain ⟨rfl, rfl⟩ := hcut
        cases x2 with
        | true =>
          go_wp2
          go_ret
          exact ⟨by rw [HW.out]; simp, rfl⟩
        | false =>
          go_upto_region 5 with fail
          go_cut [19] from 5 (fun v wx => v = .bool x3 ∧ w = wx)
          case first =>
            cases h1 : (y == 4) with
            | true =>
              go_wp2_with fail
              go_meet
              exact ⟨by rw [← H3.out, h1] <;> rfl, rfl⟩
            | false =>
              cases h2 : (y == 5) with
              | true =>
                go_wp2_with fail
                go_meet
                exact ⟨by rw [← H3.out, h1, h2] <;> rfl, rfl⟩
              | false =>
                cases h3 : (y == 6) with
                | true =>
                  go_wp2_with fail
                  go_meet
                  exact ⟨by rw [← H3.out, h1, h2, h3] <;> rfl, rfl⟩
                | false =>
                  cases h4 : (x == 7) with
                  | true =>
                    go_wp2_with fail
                    go_meet
                    exact ⟨by rw [← H3.out, h1, h2, h3, h4] <;> rfl, rfl⟩
                  | false =>
                    go_wp2_with fail
                    go_meet
                    exact ⟨by rw [← H3.out, h1, h2, h3, h4] <;> rfl, rfl⟩
          case rest =>
            obtain ⟨rfl, rfl⟩ := hcut
            cases x3 with
            | true =>
              go_wp2
              go_ret
              exact ⟨by rw [HW.out]; simp, rfl⟩
            | false =>
              cases h1 : (x == 8) with
              | true =>
                cases h2 : (y == 8) with
                | true =>
                  go_wp2
                  go_ret
                  exact ⟨by rw [HW.out]; simp [h1, h2], rfl⟩
                | false =>
                  cases h3 : (y == 9) with
                  | true =>
                    go_wp2
                    go_ret
                    exact ⟨by rw [HW.out]; simp [h1, h2, h3], rfl⟩
                  | false =>
                    cases h4 : (y == 11) with
                    | true =>
                      go_wp2
                      go_ret
                      exact ⟨by rw [HW.out]; simp [h1, h2, h3, h4], rfl⟩
                    | false =>
                      go_wp2
                      go_ret
                      exact ⟨by rw [HW.out]; simp [h1, h2, h3, h4], rfl⟩
              | false =>
                cases h2 : (x == 9) with
                | true =>
                  cases h3 : (y == 9) with
                  | true =>
                    go_wp2
                    go_ret
                    exact ⟨by rw [HW.out]; simp [h1, h2, h3], rfl⟩
                  | false =>
                    cases h4 : (y == 10) with
                    | true =>
                      go_wp2
                      go_ret
                      exact ⟨by rw [HW.out]; simp [h1, h2, h3, h4], rfl⟩
                    | false =>
                      go_wp2
                      go_ret
                      exact ⟨by rw [HW.out]; simp [h1, h2, h3, h4], rfl⟩
                | false =>
                  cases h3 : (x == 11) with
                  | true =>
                    cases h4 : (y == 9) with
                    | true =>
                      go_wp2
                      go_ret
                      exact ⟨by rw [HW.out]; simp [h1, h2, h3, h4], rfl⟩
                    | false =>
                      cases h5 : (y == 10) with
                      | true =>
                        go_wp2
                        go_ret
                        exact ⟨by rw [HW.out]; simp [h1, h2, h3, h4, h5], rfl⟩
                      | false =>
                        go_wp2
                        go_ret
                        exact ⟨by rw [HW.out]; simp [h1, h2, h3, h4, h5], rfl⟩
                  | false =>
                    cases h4 : (x == 10) with
                    | true =>
                      cases h5 : (y == 10) with
                      | true =>
                        go_wp2
                        go_ret
                        exact ⟨by rw [HW.out]; simp [h1, h2, h3, h4, h5], rfl⟩
                      | false =>
                        go_wp2
                        go_ret
                        exact ⟨by rw [HW.out]; simp [h1, h2, h3, h4, h5], rfl⟩
                    | false =>
                      go_wp2
                      go_ret
                      exact ⟨by rw [HW.out]; simp [h1, h2, h3, h4], rfl⟩
end Go.Proofs.YtdnkignhenkamaaGreatDoor

/- -/
namespace Go.Proofs.YtdnkignhenkamaaGreatDoor
open Go.RowKit
theorem wp_scope_on {P : Program} {c rest : Code} {a : Act} {w : World} {Q : Exit → Act → World → Prop} (l : Nat) (hf : findLabel c l = some rest)
    (first : c.wp P (Exit.jump l (fun a w => rest.wp P (Exit.jump l (fun _ _ => False) Q) a w) Q) a w) : (Code.scope c).wp P Q a w :=
  wp_scope_jumps l _ (fun _ _ => 0) hf first fun a w h => wp_mono h fun e a' w' hq => by
    cases e with
    | goto l' => exact ⟨hq.1, hq.2.elim⟩
    | _ => exact hq
def GbAt (g : Int → Nat) (s : ByteArray) (f q i : Nat) (pict joined : Bool) (flags : Nat) (O : List Nat) : Prop :=
  ∃ R, R ++ runesGo s f q = runesP s ∧ R.length = i ∧ s.size ≤ q + f ∧ q ≤ s.size ∧ (i = 0 → q = 0) ∧
    (i = 0 → O = [0] ∧ pict = false ∧ joined = false ∧ flags = 0) ∧
    (∀ y r, clsG g R = y :: r → O = pickG R (cutsG (clsG g R)) ∧ stOf (GS.first y) r = ⟨(clsG g R).getLastD 0, pict, joined, flags⟩)
theorem gbAt_first (g : Int → Nat) (s : ByteArray) : GbAt g s s.size 0 0 false false 0 [0] := ⟨[], rfl, rfl, by omega, by omega, fun _ => rfl, fun _ => ⟨rfl, rfl, rfl, rfl⟩, fun y r h => by simp [clsG] at h⟩
theorem clsG_snoc (g : Int → Nat) (R : List (Nat × Nat × Nat)) (x : Nat × Nat × Nat) : clsG g (R ++ [x]) = clsG g R ++ [g (x.1 : Int)] := by unfold clsG; rw [List.map_append]; rfl
theorem gbAt_one {g : Int → Nat} {s : ByteArray} {f q W R : Nat} {p j : Bool} {fl : Nat} {O : List Nat} (h : GbAt g s f q 0 p j fl O) (hp : q < s.size) (hd : Utf8.decode s q = (R, W)) (hw : 1 ≤ W ∧ q + W ≤ s.size) :
    ∃ f', GbAt g s f' (q + W) 1 (g (R : Int) == 12) false (if g (R : Int) = 13 then 1 else 0) O := by
  obtain ⟨L, h1, h2, h3, h4, h5, h6, h7⟩ := h
  have hL : L = [] := List.eq_nil_of_length_eq_zero h2
  subst hL
  obtain ⟨f', rfl, hg⟩ := runesGo_step (s := s) (f := f) hp h3
  rw [hd] at hg
  have hq := h5 rfl
  refine ⟨f', [(R, q, q + W)], by rw [← h1, hg]; rfl, rfl, by omega, hw.2, fun h => by omega, fun h => by omega, fun y r hy => ?_⟩
  simp [clsG] at hy
  obtain ⟨rfl, rfl⟩ := hy
  refine ⟨?_, rfl⟩
  rw [(h6 rfl).1, hq]
  rfl
theorem gbAt_next {g : Int → Nat} {s : ByteArray} {f q i W R : Nat} {p j : Bool} {fl : Nat} {O : List Nat} (h : GbAt g s f q (i + 1) p j fl O) (hp : q < s.size) (hd : Utf8.decode s q = (R, W)) (hw : 1 ≤ W ∧ q + W ≤ s.size)
    {z : Nat} (hz : (clsG g (runesP s))[i]? = some z) :
    ∃ f', GbAt g s f' (q + W) (i + 1 + 1) (g (R : Int) == 12 || p && g (R : Int) == 4) (p && g (R : Int) == 5) (if g (R : Int) = 13 then fl + 1 else 0)
      (O ++ (if joinG z (g (R : Int)) || j && g (R : Int) == 12 || g (R : Int) == 13 && fl % 2 == 1 then [] else [q])) := by
  obtain ⟨L, h1, h2, h3, h4, h5, h6, h7⟩ := h
  obtain ⟨f', rfl, hg⟩ := runesGo_step (s := s) (f := f) hp h3
  rw [hd] at hg
  refine ⟨f', L ++ [(R, q, q + W)], by rw [← h1, hg]; simp, by simp [h2], by omega, hw.2, fun h => by omega, fun h => by omega, fun y r hy => ?_⟩
  cases hc : clsG g L with
  | nil => have := congrArg List.length hc; simp [clsG, h2] at this
  | cons y0 r0 =>
    obtain ⟨e1, e2⟩ := h7 y0 r0 hc
    rw [clsG_snoc, hc, List.cons_append] at hy
    injection hy with hy1 hy2
    subst hy1; subst hy2
    have hlast : (clsG g L).getLastD 0 = z := by
      have hl : (clsG g L).length = i + 1 := by simp [clsG, h2]
      rw [List.getLastD_eq_getLast?, List.getLast?_eq_getElem?, hl, Nat.add_sub_cancel]
      have : (clsG g (runesP s))[i]? = (clsG g L)[i]? := by
        rw [← h1]; unfold clsG
        rw [List.map_append, List.getElem?_append_left (by simp; omega)]
      rw [← this, hz]; rfl
    rw [hlast] at e2
    constructor
    · rw [clsG_snoc, hc, List.cons_append, cutsG, cutSt_snoc, ← List.cons_append, pickG_snoc _ _ _ _ (by rw [List.length_cons, cutSt_len]; have := congrArg List.length hc; simp [clsG] at this; omega), e1, hc, e2]
      congr 1
      unfold GS.cut
      simp only
      generalize (joinG z (g (R : Int)) || j && g (R : Int) == 12 || g (R : Int) == 13 && fl % 2 == 1) = b
      cases b <;> rfl
    · rw [stOf_snoc, e2, clsG_snoc]
      unfold GS.next
      simp
theorem gbAt_end {g : Int → Nat} {s : ByteArray} {f q i : Nat} {p j : Bool} {fl : Nat} {O : List Nat} (h : GbAt g s f q i p j fl O) (hp : ¬ q < s.size) (hs : 0 < s.size) : O ++ [s.size] = boundsG g s := by
  obtain ⟨L, h1, h2, h3, h4, h5, h6, h7⟩ := h
  rw [runesGo_end (by omega), List.append_nil] at h1
  subst h1
  unfold boundsG startsG
  rw [if_neg (by omega)]
  cases hc : clsG g (runesP s) with
  | nil =>
    have h0 : i = 0 := by rw [← h2]; have := congrArg List.length hc; simpa [clsG] using this
    have := h5 h0
    omega
  | cons y r => rw [(h7 y r hc).1, hc]
theorem gbAt_zero {g : Int → Nat} {s : ByteArray} {f q : Nat} {p j : Bool} {fl : Nat} {O : List Nat} (h : GbAt g s f q 0 p j fl O) : p = false ∧ j = false ∧ fl = 0 := by
  obtain ⟨_, _, _, _, _, _, h6, _⟩ := h
  exact (h6 rfl).2
theorem gbAt_here {g : Int → Nat} {s : ByteArray} {f q i W R : Nat} {p j : Bool} {fl : Nat} {O : List Nat} (h : GbAt g s f q i p j fl O) (hp : q < s.size) (hd : Utf8.decode s q = (R, W)) : (clsG g (runesP s))[i]? = some (g (R : Int)) := by
  obtain ⟨L, h1, h2, h3, h4, h5, h6, h7⟩ := h
  obtain ⟨f', rfl, hg⟩ := runesGo_step (s := s) (f := f) hp h3
  rw [hd] at hg
  rw [← h1, hg]
  unfold clsG
  rw [List.map_append, List.getElem?_append_right (by simp; omega)]
  simp [h2]
theorem Rd.atP' {w : World} {A : Option Addr} {l : List Nat} {k : Nat} {x : Nat} (h : Rd w 1 A (l.map encN)) (hk : l[k]? = some x) : ∃ b off, A = some ⟨b, off, none⟩ ∧ w.cell? ⟨b, off + k, none⟩ = some (.int .i64 (x : Nat)) := by
  obtain ⟨b, off, rfl, hc⟩ := h (by intro e; cases l with | nil => simp at hk | cons _ _ => simp at e)
  have h0 := hc k 0 (encN x) (.int .i64 (x : Nat)) (by simp [hk]) rfl
  exact ⟨b, off, rfl, by simpa using h0⟩
set_option maxRecDepth 100000 in
set_option maxHeartbeats 40000000 in
theorem gBounds_any (s : ByteArray) (w : World) (hE : Env w) (hs : s.size ≤ 1000000) :
    Calls Tryz.prog 15 #[.string s] w fun e w' => ∃ A n c, e = .returned (.slice A n c) ∧ Own w' w.heap.size 3 1 A n c ((boundsG gG s).map encN) ∧ Below w.heap.size w w' := by
  obtain ⟨i0, hi0, hz0, hz1, hz2⟩ := info_parts infoInt
  by_cases h0 : 0 < s.size
  · have hem : s.toList.isEmpty = false := by
      rw [ByteArray.toList_eq]
      cases hq : s.data.toList with
      | nil => rw [← size_data, hq] at h0; simp at h0
      | cons a b => rfl
    have HD := Lib.hid (gdb_any w hE)
    obtain ⟨L, HL⟩ : ∃ L, Hid (clsG gG (runesP s) = L) := ⟨_, Lib.hid rfl⟩
    have hLz : L.length ≤ s.size := by rw [← HL.out]; unfold clsG; rw [List.length_map]; exact runesP_len s
    clear hE
    go_enter Tryz.func15, Tryz.ntmps15
    go_wp2_with fail
    refine HD.out.mono ?_
    rintro e w1 ⟨p, rfl, hd, hb1⟩
    have HO := Lib.hid (wOf_any p graphsD s w1 hd graphsOk.1 graphsOk.2.1 hs)
    rw [show ofC graphsD s = L from HL.out] at HO
    go_wp2_with fail
    refine HO.out.mono ?_
    rintro e w2 ⟨B, nb, cb, rfl, hob, hb2⟩
    have hnb : L.length = nb := by have := hob.len; simpa using this
    have Hnb := Lib.hid hnb
    have hnz : nb ≤ 1000000 := by omega
    have rd := hob.rd (by decide)
    have hb3 := below_two hb1 hb2
    have hsz3 := hb3.size
    clear HD HO hd hob hb1 hb2 hnb hLz
    have ho0 : Own ((w2.alloc (.cells #[.int .i64 0] 3)).iter s 0) w2.heap.size 3 1 (some ⟨w2.heap.size, 0, none⟩) 1 1 ([0].map encN) := (own_one (u := .int .i64 0) (t := 3) (w := w2) (Nat.le_refl _)).alloc _
    have hbz : Below w2.heap.size w2 ((w2.alloc (.cells #[.int .i64 0] 3)).iter s 0) := below_iter ((Below.refl _ _).alloc (Nat.le_refl _) _) (by simp) _ _
    have hit0 : ((w2.alloc (.cells #[.int .i64 0] 3)).iter s 0).heap[w2.heap.size + 1]? = some (.stringIter s 0) := by have := iter_new (w2.alloc (.cells #[.int .i64 0] 3)) s 0; simpa using this
    have HG0 := Lib.hid (gbAt_first gG s)
    go_wp2_with fail
    go_loopw [4, 5, 6, 7, 8] (fun v4 v5 v6 v7 v8 wr => ∃ (q f i : Nat) (x : Int) (pc jn : Bool) (fl : Nat) (A : Option Addr) (n c : Nat) (O : List Nat), v4 = .slice A n c ∧ v5 = .int .i64 x ∧ x = (i : Int) - 1 ∧ v6 = .bool pc ∧ v7 = .bool jn ∧ v8 = .int .i64 fl ∧
      wr.heap[w2.heap.size + 1]? = some (.stringIter s q) ∧ Own wr w2.heap.size 3 1 A n c (O.map encN) ∧ (∀ a, A = some a → a.block ≠ w2.heap.size + 1) ∧ n ≤ i + 1 ∧ i ≤ q ∧ fl ≤ i ∧ q ≤ s.size ∧ Hid (GbAt gG s f q i pc jn fl O) ∧ Below w2.heap.size w2 wr) (fun _ _ _ _ _ wr => s.size - wr.iterPos (w2.heap.size + 1))
    case atStart => exact ⟨0, s.size, 0, -1, false, false, 0, _, _, _, [0], rfl, rfl, by omega, rfl, rfl, rfl, hit0, ho0, fun a ha => by injection ha with ha; subst ha; simp, by omega, by omega, by omega, by omega, HG0, hbz⟩
    case round =>
      clear hit0 ho0 hbz HG0
      obtain ⟨q, f, i, x, pc, jn, fl, A, n, c, O, rfl, rfl, hxi, rfl, rfl, rfl, hit, ho, hA, hni, hiq, hfi, hqs, HG, hb⟩ := hrel
      have Hpos := Lib.hid (iterPos_of hit)
      by_cases hp : q < s.size
      · obtain ⟨⟨R, W⟩, HDc⟩ : ∃ d, Utf8.decode s q = d := ⟨_, rfl⟩
        have hd := dec_bd s q hp
        have hnx : ∀ ty, (Instr.next (.pointer (some ⟨w2.heap.size + 1, 0, none⟩)) true ty).run Tryz.prog wr = _ := fun ty => Lib.run_next_any_at wr (w2.heap.size + 1) s q ty hit hp
        have hit2 := Lib.iterAt_heap wr (w2.heap.size + 1) s q (q + (Utf8.decode s q).2) hit
        have hb2 := Lib.below_iterAt hb (k := w2.heap.size + 1) (by omega) s (q + (Utf8.decode s q).2)
        have ho2 := ho.keep (w' := wr.iterAt (w2.heap.size + 1) s (q + (Utf8.decode s q).2)) fun a ha => Lib.iterAt_other wr (w2.heap.size + 1) a.block s _ (hA a ha)
        have hsz2 : w2.heap.size + 1 < (wr.iterAt (w2.heap.size + 1) s (q + (Utf8.decode s q).2)).heap.size := (Array.getElem?_eq_some_iff.1 hit2).1
        rw [HDc] at hd hnx hit2 hb2 ho2 hsz2
        simp only at hd hnx hit2 hb2 ho2 hsz2
        have hhere := gbAt_here HG.out hp HDc
        rw [HL.out] at hhere
        have hy14 := gG_lt (R : Int)
        obtain ⟨y, hy⟩ : ∃ y, gG (R : Int) = y := ⟨_, rfl⟩
        rw [hy] at hhere hy14
        have Hhere := Lib.hid hhere
        obtain ⟨bb, off, rfl, cy⟩ := rd.atP' Hhere.out
        replace cy := cell_keep cy hb2
        have HY := Lib.hid hy
        have hin : i < nb := by have := (List.getElem?_eq_some_iff.1 hhere).1; have := Hnb.out; omega
        clear hy hhere ho hit hb
        generalize wr.iterAt (w2.heap.size + 1) s (q + W) = w4 at hnx hit2 hb2 ho2 hsz2 cy
        have e1 : IntKind.i64.wrap (x + 1) = (i : Int) := by rw [show x + 1 = (i : Int) by omega]; exact IntWalk.i64_in _ (by omega)
        have e2 : x + 1 = (i : Int) := by omega
        by_cases hi0 : i = 0
        · have f0 : ((i : Int) == 0) = true := by rw [hi0]; rfl
          have HI := Lib.hid hi0
          have hG0 := HG.out
          rw [hi0] at hG0
          obtain ⟨g, hN⟩ := gbAt_one hG0 hp HDc (by omega)
          have HN := Lib.hid hN
          obtain ⟨hpc, hjn, hfl⟩ := gbAt_zero hG0
          subst hpc
          subst hjn
          have Hfl := Lib.hid hfl
          clear hi0 hG0 hN HDc HG hfl
          rcases (by omega : y = 12 ∨ y = 13 ∨ (y ≠ 12 ∧ y ≠ 13)) with hc | hc | ⟨hc1, hc2⟩
          · have HYc := Lib.hid HY.out
            have c12 : (((y : Nat) : Int) == 12) = true := by rw [hc]; rfl
            have c13 : (((y : Nat) : Int) == 13) = false := by rw [hc]; rfl
            have HN2 : Hid (GbAt gG s g (q + W) (i + 1) true false 0 O) := Lib.hid (by have h := HN.out; rw [HY.out, hc] at h; rw [HI.out]; exact h)
            clear hc
            go_wp2_with fail
            refine wp_scope_on 0 rfl ?_
            go_wp2_with fail
            go_step3
            refine (⟨rfl, ?_⟩ : _ ∧ _)
            show Code.wp _ _ _ _ _
            go_wp2_with fail
            refine (show Exit.inBlock 1 _ Exit.normal _ _ from ?_)
            try go_wp2
            go_roundw
            case rel => exact ⟨q + W, g, i + 1, (i : Int), true, false, 0, A, n, c, O, rfl, rfl, by omega, rfl, rfl, rfl, hit2, ho2, hA, by omega, by omega, by omega, by omega, HN2, hb2⟩
            case measure => rw [iterPos_of hit2, Hpos.out]; omega
          · have HYc := Lib.hid HY.out
            have c12 : (((y : Nat) : Int) == 12) = false := by rw [hc]; rfl
            have c13 : (((y : Nat) : Int) == 13) = true := by rw [hc]; rfl
            have HN2 : Hid (GbAt gG s g (q + W) (i + 1) false false 1 O) := Lib.hid (by have h := HN.out; rw [HY.out, hc] at h; rw [HI.out]; exact h)
            clear hc
            go_wp2_with fail
            refine wp_scope_on 0 rfl ?_
            go_wp2_with fail
            go_step3
            refine (⟨rfl, ?_⟩ : _ ∧ _)
            show Code.wp _ _ _ _ _
            go_wp2_with fail
            refine (show Exit.inBlock 1 _ Exit.normal _ _ from ?_)
            try go_wp2
            go_roundw
            case rel => exact ⟨q + W, g, i + 1, (i : Int), false, false, 1, A, n, c, O, rfl, rfl, by omega, rfl, rfl, (by rw [Hfl.out]; rfl), hit2, ho2, hA, by omega, by omega, by omega, by omega, HN2, hb2⟩
            case measure => rw [iterPos_of hit2, Hpos.out]; omega
          · have HYc := Lib.hid HY.out
            have c12 : (((y : Nat) : Int) == 12) = false := beq_eq_false_iff_ne.2 (by omega)
            have c13 : (((y : Nat) : Int) == 13) = false := beq_eq_false_iff_ne.2 (by omega)
            have HN2 : Hid (GbAt gG s g (q + W) (i + 1) false false 0 O) := Lib.hid (by have h := HN.out; rw [HY.out, beq_eq_false_iff_ne.2 hc1, if_neg hc2] at h; rw [HI.out]; exact h)
            clear hc1 hc2
            go_wp2_with fail
            refine wp_scope_on 0 rfl ?_
            go_wp2_with fail
            go_step3
            refine (⟨rfl, ?_⟩ : _ ∧ _)
            show Code.wp _ _ _ _ _
            go_wp2_with fail
            refine (show Exit.inBlock 1 _ Exit.normal _ _ from ?_)
            try go_wp2
            go_roundw
            case rel => exact ⟨q + W, g, i + 1, (i : Int), false, false, 0, A, n, c, O, rfl, rfl, by omega, rfl, rfl, rfl, hit2, ho2, hA, by omega, by omega, by omega, by omega, HN2, hb2⟩
            case measure => rw [iterPos_of hit2, Hpos.out]; omega
        · have f0 : ((i : Int) == 0) = false := beq_eq_false_iff_ne.2 (by omega)
          obtain ⟨i, rfl⟩ : ∃ k, i = k + 1 := ⟨i - 1, by omega⟩
          obtain ⟨z, Hz⟩ : ∃ z, Hid (L[i]? = some z) := ⟨_, Lib.hid (List.getElem?_eq_getElem (by have := Hnb.out; omega))⟩
          obtain ⟨bb2, off2, eB, cz⟩ := rd.atP' Hz.out
          obtain ⟨rfl, rfl⟩ : bb = bb2 ∧ off = off2 := by injection eB with e; injection e with e1 e2; exact ⟨e1, e2⟩
          replace cz := cell_keep cz hb2
          have hz14 : z < 14 := by
            have := List.mem_of_getElem? Hz.out
            rw [← HL.out] at this
            unfold clsG at this
            obtain ⟨u, _, e⟩ := List.mem_map.1 this
            rw [← e]; exact gG_lt _
          obtain ⟨g, hN⟩ := gbAt_next HG.out hp HDc (by omega) (by rw [HL.out]; exact Hz.out)
          have HN := Lib.hid hN
          have e3 : ((i + 1 : Nat) : Int) - 1 = (i : Int) := by omega
          have e4 : ((i : Int) + 1) - 1 = (i : Int) := by omega
          have f1 : ((i : Int) + 1 == 0) = false := beq_eq_false_iff_ne.2 (by omega)
          obtain ⟨jz, hjz⟩ : ∃ b, joinG z y = b := ⟨_, rfl⟩
          have HJ := Lib.hid (gjoins_any (z : Int) (y : Int) w4)
          rw [joinZ_eq z hz14 y hy14, hjz] at HJ
          clear hi0 hN HDc HG eB Hz hz14
          rcases (by omega : y = 12 ∨ y = 13 ∨ y = 5 ∨ y = 4 ∨ (y ≠ 12 ∧ y ≠ 13 ∧ y ≠ 5 ∧ y ≠ 4)) with hc | hc | hc | hc | ⟨k12, k13, k5, k4⟩
          · skip
            have c12 : (((y : Nat) : Int) == 12) = true := by rw [hc]; rfl
            have d12 : (y == 12) = true := by rw [hc]; rfl
            have c13 : (((y : Nat) : Int) == 13) = false := by rw [hc]; rfl
            have d13 : (y == 13) = false := by rw [hc]; rfl
            have c5 : (((y : Nat) : Int) == 5) = false := by rw [hc]; rfl
            have d5 : (y == 5) = false := by rw [hc]; rfl
            have c4 : (((y : Nat) : Int) == 4) = false := by rw [hc]; rfl
            have d4 : (y == 4) = false := by rw [hc]; rfl
            have d13p : (y = 13) = False := by simp [hc]
            have Hd := Lib.hid (And.intro d12 (And.intro d13 (And.intro d5 (And.intro d4 d13p))))
            clear d12 d13 d5 d4 d13p hc
            cases jz with
            | true =>
              cases pc with
              | true =>
                have HN2 : Hid (GbAt gG s g (q + W) (i + 1 + 1) true false 0 O) := Lib.hid (by
                  have h := HN.out
                  rw [HY.out, Hd.out.1, Hd.out.2.1, Hd.out.2.2.1, Hd.out.2.2.2.1, hjz] at h
                  simpa [Hd.out.2.2.2.2] using h)
                clear HN
                go_wp2_with fail
                refine wp_scope_on 0 rfl ?_
                go_wp2_with fail
                refine HJ.out.mono ?_
                rintro e wj ⟨rfl, rfl⟩
                go_wp2_with fail
                go_step3
                refine (⟨rfl, ?_⟩ : _ ∧ _)
                show Code.wp _ _ _ _ _
                go_wp2_with fail
                refine (show Exit.inBlock 1 _ Exit.normal _ _ from ?_)
                try go_wp2
                go_roundw
                case rel => exact ⟨q + W, g, i + 1 + 1, ((i + 1 : Nat) : Int), true, false, 0, A, n, c, O, rfl, by first | rfl | (push_cast; rfl), by omega, rfl, rfl, rfl, hit2, ho2, hA, by omega, by omega, by omega, by omega, HN2, hb2⟩
                case measure => rw [iterPos_of hit2, Hpos.out]; omega
              | false =>
                have HN2 : Hid (GbAt gG s g (q + W) (i + 1 + 1) true false 0 O) := Lib.hid (by
                  have h := HN.out
                  rw [HY.out, Hd.out.1, Hd.out.2.1, Hd.out.2.2.1, Hd.out.2.2.2.1, hjz] at h
                  simpa [Hd.out.2.2.2.2] using h)
                clear HN
                go_wp2_with fail
                refine wp_scope_on 0 rfl ?_
                go_wp2_with fail
                refine HJ.out.mono ?_
                rintro e wj ⟨rfl, rfl⟩
                go_wp2_with fail
                go_step3
                refine (⟨rfl, ?_⟩ : _ ∧ _)
                show Code.wp _ _ _ _ _
                go_wp2_with fail
                refine (show Exit.inBlock 1 _ Exit.normal _ _ from ?_)
                try go_wp2
                go_roundw
                case rel => exact ⟨q + W, g, i + 1 + 1, ((i + 1 : Nat) : Int), true, false, 0, A, n, c, O, rfl, by first | rfl | (push_cast; rfl), by omega, rfl, rfl, rfl, hit2, ho2, hA, by omega, by omega, by omega, by omega, HN2, hb2⟩
                case measure => rw [iterPos_of hit2, Hpos.out]; omega
            | false =>
              cases jn with
              | true =>
                cases pc with
                | true =>
                  have HN2 : Hid (GbAt gG s g (q + W) (i + 1 + 1) true false 0 O) := Lib.hid (by
                    have h := HN.out
                    rw [HY.out, Hd.out.1, Hd.out.2.1, Hd.out.2.2.1, Hd.out.2.2.2.1, hjz] at h
                    simpa [Hd.out.2.2.2.2] using h)
                  clear HN
                  go_wp2_with fail
                  refine wp_scope_on 0 rfl ?_
                  go_wp2_with fail
                  refine HJ.out.mono ?_
                  rintro e wj ⟨rfl, rfl⟩
                  go_wp2_with fail
                  go_step3
                  refine (⟨rfl, ?_⟩ : _ ∧ _)
                  show Code.wp _ _ _ _ _
                  go_wp2_with fail
                  refine (show Exit.inBlock 1 _ Exit.normal _ _ from ?_)
                  try go_wp2
                  go_roundw
                  case rel => exact ⟨q + W, g, i + 1 + 1, ((i + 1 : Nat) : Int), true, false, 0, A, n, c, O, rfl, by first | rfl | (push_cast; rfl), by omega, rfl, rfl, rfl, hit2, ho2, hA, by omega, by omega, by omega, by omega, HN2, hb2⟩
                  case measure => rw [iterPos_of hit2, Hpos.out]; omega
                | false =>
                  have HN2 : Hid (GbAt gG s g (q + W) (i + 1 + 1) true false 0 O) := Lib.hid (by
                    have h := HN.out
                    rw [HY.out, Hd.out.1, Hd.out.2.1, Hd.out.2.2.1, Hd.out.2.2.2.1, hjz] at h
                    simpa [Hd.out.2.2.2.2] using h)
                  clear HN
                  go_wp2_with fail
                  refine wp_scope_on 0 rfl ?_
                  go_wp2_with fail
                  refine HJ.out.mono ?_
                  rintro e wj ⟨rfl, rfl⟩
                  go_wp2_with fail
                  go_step3
                  refine (⟨rfl, ?_⟩ : _ ∧ _)
                  show Code.wp _ _ _ _ _
                  go_wp2_with fail
                  refine (show Exit.inBlock 1 _ Exit.normal _ _ from ?_)
                  try go_wp2
                  go_roundw
                  case rel => exact ⟨q + W, g, i + 1 + 1, ((i + 1 : Nat) : Int), true, false, 0, A, n, c, O, rfl, by first | rfl | (push_cast; rfl), by omega, rfl, rfl, rfl, hit2, ho2, hA, by omega, by omega, by omega, by omega, HN2, hb2⟩
                  case measure => rw [iterPos_of hit2, Hpos.out]; omega
              | false =>
                cases pc with
                | true =>
                  have HN2 : Hid (GbAt gG s g (q + W) (i + 1 + 1) true false 0 (O ++ [q])) := Lib.hid (by
                    have h := HN.out
                    rw [HY.out, Hd.out.1, Hd.out.2.1, Hd.out.2.2.1, Hd.out.2.2.2.1, hjz] at h
                    simpa [Hd.out.2.2.2.2] using h)
                  clear HN
                  go_wp2_with fail
                  refine wp_scope_on 0 rfl ?_
                  go_wp2_with fail
                  refine HJ.out.mono ?_
                  rintro e wj ⟨rfl, rfl⟩
                  go_wp2_with (at_builtin; go_must (refine wpList_app rfl (.tmp 53) (.tmp 55) _ rfl w2.heap.size 3 i0 _ 1 8 Tryz.underlying23 hi0 hz0 hz1 hz2 rfl (by omega) A n c (O.map encN) rfl (ho2.alloc _) _ 1 1 [encN q] rfl rfl (Rd.newAt (by simp) rfl) (encN_ok [q]) (by unfold maxLen; omega) (by omega) (by simp; omega) ?_); intro A3 c3 w5 ho5 hg5 hA5)
                  go_step3
                  go_wp2_with fail
                  have hb5 := below_app (hb2.alloc (by omega) _) hg5 (by simp; omega) (fun a ha => (ho2.lt a ha).1)
                  have hit5 : w5.heap[w2.heap.size + 1]? = some (.stringIter s (q + W)) := (hg5.block (w2.heap.size + 1) (by simp; omega) (fun e => by cases A with | none => cases e | some a => simp at e; exact hA a rfl e.symm)).trans ((Below.heap_alloc _ _ _ hsz2).trans hit2)
                  have hA6 : ∀ a, A3 = some a → a.block ≠ w2.heap.size + 1 := fun a ha => by
                    rcases hA5 with e | e
                    · exact hA a (by rw [← e]; exact ha)
                    · rw [e] at ha; injection ha with ha; subst ha; simp; omega
                  refine (show Exit.inBlock 1 _ Exit.normal _ _ from ?_)
                  try go_wp2
                  go_roundw
                  case rel => exact ⟨q + W, g, i + 1 + 1, ((i + 1 : Nat) : Int), true, false, 0, A3, n + 1, c3, O ++ [q], rfl, by first | rfl | (push_cast; rfl), by omega, rfl, rfl, rfl, hit5, by rw [List.map_append]; exact ho5, hA6, by omega, by omega, by omega, by omega, HN2, hb5⟩
                  case measure => rw [iterPos_of hit5, Hpos.out]; omega
                | false =>
                  have HN2 : Hid (GbAt gG s g (q + W) (i + 1 + 1) true false 0 (O ++ [q])) := Lib.hid (by
                    have h := HN.out
                    rw [HY.out, Hd.out.1, Hd.out.2.1, Hd.out.2.2.1, Hd.out.2.2.2.1, hjz] at h
                    simpa [Hd.out.2.2.2.2] using h)
                  clear HN
                  go_wp2_with fail
                  refine wp_scope_on 0 rfl ?_
                  go_wp2_with fail
                  refine HJ.out.mono ?_
                  rintro e wj ⟨rfl, rfl⟩
                  go_wp2_with (at_builtin; go_must (refine wpList_app rfl (.tmp 53) (.tmp 55) _ rfl w2.heap.size 3 i0 _ 1 8 Tryz.underlying23 hi0 hz0 hz1 hz2 rfl (by omega) A n c (O.map encN) rfl (ho2.alloc _) _ 1 1 [encN q] rfl rfl (Rd.newAt (by simp) rfl) (encN_ok [q]) (by unfold maxLen; omega) (by omega) (by simp; omega) ?_); intro A3 c3 w5 ho5 hg5 hA5)
                  go_step3
                  go_wp2_with fail
                  have hb5 := below_app (hb2.alloc (by omega) _) hg5 (by simp; omega) (fun a ha => (ho2.lt a ha).1)
                  have hit5 : w5.heap[w2.heap.size + 1]? = some (.stringIter s (q + W)) := (hg5.block (w2.heap.size + 1) (by simp; omega) (fun e => by cases A with | none => cases e | some a => simp at e; exact hA a rfl e.symm)).trans ((Below.heap_alloc _ _ _ hsz2).trans hit2)
                  have hA6 : ∀ a, A3 = some a → a.block ≠ w2.heap.size + 1 := fun a ha => by
                    rcases hA5 with e | e
                    · exact hA a (by rw [← e]; exact ha)
                    · rw [e] at ha; injection ha with ha; subst ha; simp; omega
                  refine (show Exit.inBlock 1 _ Exit.normal _ _ from ?_)
                  try go_wp2
                  go_roundw
                  case rel => exact ⟨q + W, g, i + 1 + 1, ((i + 1 : Nat) : Int), true, false, 0, A3, n + 1, c3, O ++ [q], rfl, by first | rfl | (push_cast; rfl), by omega, rfl, rfl, rfl, hit5, by rw [List.map_append]; exact ho5, hA6, by omega, by omega, by omega, by omega, HN2, hb5⟩
                  case measure => rw [iterPos_of hit5, Hpos.out]; omega
          · skip
            have c12 : (((y : Nat) : Int) == 12) = false := by rw [hc]; rfl
            have d12 : (y == 12) = false := by rw [hc]; rfl
            have c13 : (((y : Nat) : Int) == 13) = true := by rw [hc]; rfl
            have d13 : (y == 13) = true := by rw [hc]; rfl
            have c5 : (((y : Nat) : Int) == 5) = false := by rw [hc]; rfl
            have d5 : (y == 5) = false := by rw [hc]; rfl
            have c4 : (((y : Nat) : Int) == 4) = false := by rw [hc]; rfl
            have d4 : (y == 4) = false := by rw [hc]; rfl
            have d13p : (y = 13) = True := by simp [hc]
            have Hd := Lib.hid (And.intro d12 (And.intro d13 (And.intro d5 (And.intro d4 d13p))))
            clear d12 d13 d5 d4 d13p hc
            cases jz with
            | true =>
              cases pc with
              | true =>
                have HN2 : Hid (GbAt gG s g (q + W) (i + 1 + 1) false false (fl + 1) O) := Lib.hid (by
                  have h := HN.out
                  rw [HY.out, Hd.out.1, Hd.out.2.1, Hd.out.2.2.1, Hd.out.2.2.2.1, hjz] at h
                  simpa [Hd.out.2.2.2.2] using h)
                clear HN
                go_wp2_with fail
                refine wp_scope_on 0 rfl ?_
                go_wp2_with fail
                refine HJ.out.mono ?_
                rintro e wj ⟨rfl, rfl⟩
                go_wp2_with fail
                go_step3
                refine (⟨rfl, ?_⟩ : _ ∧ _)
                show Code.wp _ _ _ _ _
                go_wp2_with fail
                refine (show Exit.inBlock 1 _ Exit.normal _ _ from ?_)
                try go_wp2
                go_roundw
                case rel => exact ⟨q + W, g, i + 1 + 1, ((i + 1 : Nat) : Int), false, false, fl + 1, A, n, c, O, rfl, by first | rfl | (push_cast; rfl), by omega, rfl, rfl, by go_num, hit2, ho2, hA, by omega, by omega, by omega, by omega, HN2, hb2⟩
                case measure => rw [iterPos_of hit2, Hpos.out]; omega
              | false =>
                have HN2 : Hid (GbAt gG s g (q + W) (i + 1 + 1) false false (fl + 1) O) := Lib.hid (by
                  have h := HN.out
                  rw [HY.out, Hd.out.1, Hd.out.2.1, Hd.out.2.2.1, Hd.out.2.2.2.1, hjz] at h
                  simpa [Hd.out.2.2.2.2] using h)
                clear HN
                go_wp2_with fail
                refine wp_scope_on 0 rfl ?_
                go_wp2_with fail
                refine HJ.out.mono ?_
                rintro e wj ⟨rfl, rfl⟩
                go_wp2_with fail
                go_step3
                refine (⟨rfl, ?_⟩ : _ ∧ _)
                show Code.wp _ _ _ _ _
                go_wp2_with fail
                refine (show Exit.inBlock 1 _ Exit.normal _ _ from ?_)
                try go_wp2
                go_roundw
                case rel => exact ⟨q + W, g, i + 1 + 1, ((i + 1 : Nat) : Int), false, false, fl + 1, A, n, c, O, rfl, by first | rfl | (push_cast; rfl), by omega, rfl, rfl, by go_num, hit2, ho2, hA, by omega, by omega, by omega, by omega, HN2, hb2⟩
                case measure => rw [iterPos_of hit2, Hpos.out]; omega
            | false =>
              cases jn with
              | true =>
                rcases (by omega : fl % 2 = 1 ∨ fl % 2 = 0) with hm | hm
                · have hpar : (fl % 2 == 1) = true := by rw [hm]; rfl
                  have hparI : ((fl : Int) % 2 == 1) = true := by rw [show (fl : Int) % 2 = 1 by omega]; rfl
                  clear hm
                  cases pc with
                  | true =>
                    have HN2 : Hid (GbAt gG s g (q + W) (i + 1 + 1) false false (fl + 1) O) := Lib.hid (by
                      have h := HN.out
                      rw [HY.out, Hd.out.1, Hd.out.2.1, Hd.out.2.2.1, Hd.out.2.2.2.1, hjz, hpar] at h
                      simpa [Hd.out.2.2.2.2] using h)
                    clear HN
                    go_wp2_with fail
                    refine wp_scope_on 0 rfl ?_
                    go_wp2_with fail
                    refine HJ.out.mono ?_
                    rintro e wj ⟨rfl, rfl⟩
                    go_wp2_with fail
                    go_step3
                    refine (⟨rfl, ?_⟩ : _ ∧ _)
                    show Code.wp _ _ _ _ _
                    go_wp2_with fail
                    refine (show Exit.inBlock 1 _ Exit.normal _ _ from ?_)
                    try go_wp2
                    go_roundw
                    case rel => exact ⟨q + W, g, i + 1 + 1, ((i + 1 : Nat) : Int), false, false, fl + 1, A, n, c, O, rfl, by first | rfl | (push_cast; rfl), by omega, rfl, rfl, by go_num, hit2, ho2, hA, by omega, by omega, by omega, by omega, HN2, hb2⟩
                    case measure => rw [iterPos_of hit2, Hpos.out]; omega
                  | false =>
                    have HN2 : Hid (GbAt gG s g (q + W) (i + 1 + 1) false false (fl + 1) O) := Lib.hid (by
                      have h := HN.out
                      rw [HY.out, Hd.out.1, Hd.out.2.1, Hd.out.2.2.1, Hd.out.2.2.2.1, hjz, hpar] at h
                      simpa [Hd.out.2.2.2.2] using h)
                    clear HN
                    go_wp2_with fail
                    refine wp_scope_on 0 rfl ?_
                    go_wp2_with fail
                    refine HJ.out.mono ?_
                    rintro e wj ⟨rfl, rfl⟩
                    go_wp2_with fail
                    go_step3
                    refine (⟨rfl, ?_⟩ : _ ∧ _)
                    show Code.wp _ _ _ _ _
                    go_wp2_with fail
                    refine (show Exit.inBlock 1 _ Exit.normal _ _ from ?_)
                    try go_wp2
                    go_roundw
                    case rel => exact ⟨q + W, g, i + 1 + 1, ((i + 1 : Nat) : Int), false, false, fl + 1, A, n, c, O, rfl, by first | rfl | (push_cast; rfl), by omega, rfl, rfl, by go_num, hit2, ho2, hA, by omega, by omega, by omega, by omega, HN2, hb2⟩
                    case measure => rw [iterPos_of hit2, Hpos.out]; omega
                · have hpar : (fl % 2 == 1) = false := by rw [hm]; rfl
                  have hparI : ((fl : Int) % 2 == 1) = false := by rw [show (fl : Int) % 2 = 0 by omega]; rfl
                  clear hm
                  cases pc with
                  | true =>
                    have HN2 : Hid (GbAt gG s g (q + W) (i + 1 + 1) false false (fl + 1) (O ++ [q])) := Lib.hid (by
                      have h := HN.out
                      rw [HY.out, Hd.out.1, Hd.out.2.1, Hd.out.2.2.1, Hd.out.2.2.2.1, hjz, hpar] at h
                      simpa [Hd.out.2.2.2.2] using h)
                    clear HN
                    go_wp2_with fail
                    refine wp_scope_on 0 rfl ?_
                    go_wp2_with fail
                    refine HJ.out.mono ?_
                    rintro e wj ⟨rfl, rfl⟩
                    go_wp2_with (at_builtin; go_must (refine wpList_app rfl (.tmp 53) (.tmp 55) _ rfl w2.heap.size 3 i0 _ 1 8 Tryz.underlying23 hi0 hz0 hz1 hz2 rfl (by omega) A n c (O.map encN) rfl (ho2.alloc _) _ 1 1 [encN q] rfl rfl (Rd.newAt (by simp) rfl) (encN_ok [q]) (by unfold maxLen; omega) (by omega) (by simp; omega) ?_); intro A3 c3 w5 ho5 hg5 hA5)
                    go_step3
                    go_wp2_with fail
                    have hb5 := below_app (hb2.alloc (by omega) _) hg5 (by simp; omega) (fun a ha => (ho2.lt a ha).1)
                    have hit5 : w5.heap[w2.heap.size + 1]? = some (.stringIter s (q + W)) := (hg5.block (w2.heap.size + 1) (by simp; omega) (fun e => by cases A with | none => cases e | some a => simp at e; exact hA a rfl e.symm)).trans ((Below.heap_alloc _ _ _ hsz2).trans hit2)
                    have hA6 : ∀ a, A3 = some a → a.block ≠ w2.heap.size + 1 := fun a ha => by
                      rcases hA5 with e | e
                      · exact hA a (by rw [← e]; exact ha)
                      · rw [e] at ha; injection ha with ha; subst ha; simp; omega
                    refine (show Exit.inBlock 1 _ Exit.normal _ _ from ?_)
                    try go_wp2
                    go_roundw
                    case rel => exact ⟨q + W, g, i + 1 + 1, ((i + 1 : Nat) : Int), false, false, fl + 1, A3, n + 1, c3, O ++ [q], rfl, by first | rfl | (push_cast; rfl), by omega, rfl, rfl, by go_num, hit5, by rw [List.map_append]; exact ho5, hA6, by omega, by omega, by omega, by omega, HN2, hb5⟩
                    case measure => rw [iterPos_of hit5, Hpos.out]; omega
                  | false =>
                    have HN2 : Hid (GbAt gG s g (q + W) (i + 1 + 1) false false (fl + 1) (O ++ [q])) := Lib.hid (by
                      have h := HN.out
                      rw [HY.out, Hd.out.1, Hd.out.2.1, Hd.out.2.2.1, Hd.out.2.2.2.1, hjz, hpar] at h
                      simpa [Hd.out.2.2.2.2] using h)
                    clear HN
                    go_wp2_with fail
                    refine wp_scope_on 0 rfl ?_
                    go_wp2_with fail
                    refine HJ.out.mono ?_
                    rintro e wj ⟨rfl, rfl⟩
                    go_wp2_with (at_builtin; go_must (refine wpList_app rfl (.tmp 53) (.tmp 55) _ rfl w2.heap.size 3 i0 _ 1 8 Tryz.underlying23 hi0 hz0 hz1 hz2 rfl (by omega) A n c (O.map encN) rfl (ho2.alloc _) _ 1 1 [encN q] rfl rfl (Rd.newAt (by simp) rfl) (encN_ok [q]) (by unfold maxLen; omega) (by omega) (by simp; omega) ?_); intro A3 c3 w5 ho5 hg5 hA5)
                    go_step3
                    go_wp2_with fail
                    have hb5 := below_app (hb2.alloc (by omega) _) hg5 (by simp; omega) (fun a ha => (ho2.lt a ha).1)
                    have hit5 : w5.heap[w2.heap.size + 1]? = some (.stringIter s (q + W)) := (hg5.block (w2.heap.size + 1) (by simp; omega) (fun e => by cases A with | none => cases e | some a => simp at e; exact hA a rfl e.symm)).trans ((Below.heap_alloc _ _ _ hsz2).trans hit2)
                    have hA6 : ∀ a, A3 = some a → a.block ≠ w2.heap.size + 1 := fun a ha => by
                      rcases hA5 with e | e
                      · exact hA a (by rw [← e]; exact ha)
                      · rw [e] at ha; injection ha with ha; subst ha; simp; omega
                    refine (show Exit.inBlock 1 _ Exit.normal _ _ from ?_)
                    try go_wp2
                    go_roundw
                    case rel => exact ⟨q + W, g, i + 1 + 1, ((i + 1 : Nat) : Int), false, false, fl + 1, A3, n + 1, c3, O ++ [q], rfl, by first | rfl | (push_cast; rfl), by omega, rfl, rfl, by go_num, hit5, by rw [List.map_append]; exact ho5, hA6, by omega, by omega, by omega, by omega, HN2, hb5⟩
                    case measure => rw [iterPos_of hit5, Hpos.out]; omega
              | false =>
                rcases (by omega : fl % 2 = 1 ∨ fl % 2 = 0) with hm | hm
                · have hpar : (fl % 2 == 1) = true := by rw [hm]; rfl
                  have hparI : ((fl : Int) % 2 == 1) = true := by rw [show (fl : Int) % 2 = 1 by omega]; rfl
                  clear hm
                  cases pc with
                  | true =>
                    have HN2 : Hid (GbAt gG s g (q + W) (i + 1 + 1) false false (fl + 1) O) := Lib.hid (by
                      have h := HN.out
                      rw [HY.out, Hd.out.1, Hd.out.2.1, Hd.out.2.2.1, Hd.out.2.2.2.1, hjz, hpar] at h
                      simpa [Hd.out.2.2.2.2] using h)
                    clear HN
                    go_wp2_with fail
                    refine wp_scope_on 0 rfl ?_
                    go_wp2_with fail
                    refine HJ.out.mono ?_
                    rintro e wj ⟨rfl, rfl⟩
                    go_wp2_with fail
                    go_step3
                    refine (⟨rfl, ?_⟩ : _ ∧ _)
                    show Code.wp _ _ _ _ _
                    go_wp2_with fail
                    refine (show Exit.inBlock 1 _ Exit.normal _ _ from ?_)
                    try go_wp2
                    go_roundw
                    case rel => exact ⟨q + W, g, i + 1 + 1, ((i + 1 : Nat) : Int), false, false, fl + 1, A, n, c, O, rfl, by first | rfl | (push_cast; rfl), by omega, rfl, rfl, by go_num, hit2, ho2, hA, by omega, by omega, by omega, by omega, HN2, hb2⟩
                    case measure => rw [iterPos_of hit2, Hpos.out]; omega
                  | false =>
                    have HN2 : Hid (GbAt gG s g (q + W) (i + 1 + 1) false false (fl + 1) O) := Lib.hid (by
                      have h := HN.out
                      rw [HY.out, Hd.out.1, Hd.out.2.1, Hd.out.2.2.1, Hd.out.2.2.2.1, hjz, hpar] at h
                      simpa [Hd.out.2.2.2.2] using h)
                    clear HN
                    go_wp2_with fail
                    refine wp_scope_on 0 rfl ?_
                    go_wp2_with fail
                    refine HJ.out.mono ?_
                    rintro e wj ⟨rfl, rfl⟩
                    go_wp2_with fail
                    go_step3
                    refine (⟨rfl, ?_⟩ : _ ∧ _)
                    show Code.wp _ _ _ _ _
                    go_wp2_with fail
                    refine (show Exit.inBlock 1 _ Exit.normal _ _ from ?_)
                    try go_wp2
                    go_roundw
                    case rel => exact ⟨q + W, g, i + 1 + 1, ((i + 1 : Nat) : Int), false, false, fl + 1, A, n, c, O, rfl, by first | rfl | (push_cast; rfl), by omega, rfl, rfl, by go_num, hit2, ho2, hA, by omega, by omega, by omega, by omega, HN2, hb2⟩
                    case measure => rw [iterPos_of hit2, Hpos.out]; omega
                · have hpar : (fl % 2 == 1) = false := by rw [hm]; rfl
                  have hparI : ((fl : Int) % 2 == 1) = false := by rw [show (fl : Int) % 2 = 0 by omega]; rfl
                  clear hm
                  cases pc with
                  | true =>
                    have HN2 : Hid (GbAt gG s g (q + W) (i + 1 + 1) false false (fl + 1) (O ++ [q])) := Lib.hid (by
                      have h := HN.out
                      rw [HY.out, Hd.out.1, Hd.out.2.1, Hd.out.2.2.1, Hd.out.2.2.2.1, hjz, hpar] at h
                      simpa [Hd.out.2.2.2.2] using h)
                    clear HN
                    go_wp2_with fail
                    refine wp_scope_on 0 rfl ?_
                    go_wp2_with fail
                    refine HJ.out.mono ?_
                    rintro e wj ⟨rfl, rfl⟩
                    go_wp2_with (at_builtin; go_must (refine wpList_app rfl (.tmp 53) (.tmp 55) _ rfl w2.heap.size 3 i0 _ 1 8 Tryz.underlying23 hi0 hz0 hz1 hz2 rfl (by omega) A n c (O.map encN) rfl (ho2.alloc _) _ 1 1 [encN q] rfl rfl (Rd.newAt (by simp) rfl) (encN_ok [q]) (by unfold maxLen; omega) (by omega) (by simp; omega) ?_); intro A3 c3 w5 ho5 hg5 hA5)
                    go_step3
                    go_wp2_with fail
                    have hb5 := below_app (hb2.alloc (by omega) _) hg5 (by simp; omega) (fun a ha => (ho2.lt a ha).1)
                    have hit5 : w5.heap[w2.heap.size + 1]? = some (.stringIter s (q + W)) := (hg5.block (w2.heap.size + 1) (by simp; omega) (fun e => by cases A with | none => cases e | some a => simp at e; exact hA a rfl e.symm)).trans ((Below.heap_alloc _ _ _ hsz2).trans hit2)
                    have hA6 : ∀ a, A3 = some a → a.block ≠ w2.heap.size + 1 := fun a ha => by
                      rcases hA5 with e | e
                      · exact hA a (by rw [← e]; exact ha)
                      · rw [e] at ha; injection ha with ha; subst ha; simp; omega
                    refine (show Exit.inBlock 1 _ Exit.normal _ _ from ?_)
                    try go_wp2
                    go_roundw
                    case rel => exact ⟨q + W, g, i + 1 + 1, ((i + 1 : Nat) : Int), false, false, fl + 1, A3, n + 1, c3, O ++ [q], rfl, by first | rfl | (push_cast; rfl), by omega, rfl, rfl, by go_num, hit5, by rw [List.map_append]; exact ho5, hA6, by omega, by omega, by omega, by omega, HN2, hb5⟩
                    case measure => rw [iterPos_of hit5, Hpos.out]; omega
                  | false =>
                    have HN2 : Hid (GbAt gG s g (q + W) (i + 1 + 1) false false (fl + 1) (O ++ [q])) := Lib.hid (by
                      have h := HN.out
                      rw [HY.out, Hd.out.1, Hd.out.2.1, Hd.out.2.2.1, Hd.out.2.2.2.1, hjz, hpar] at h
                      simpa [Hd.out.2.2.2.2] using h)
                    clear HN
                    go_wp2_with fail
                    refine wp_scope_on 0 rfl ?_
                    go_wp2_with fail
                    refine HJ.out.mono ?_
                    rintro e wj ⟨rfl, rfl⟩
                    go_wp2_with (at_builtin; go_must (refine wpList_app rfl (.tmp 53) (.tmp 55) _ rfl w2.heap.size 3 i0 _ 1 8 Tryz.underlying23 hi0 hz0 hz1 hz2 rfl (by omega) A n c (O.map encN) rfl (ho2.alloc _) _ 1 1 [encN q] rfl rfl (Rd.newAt (by simp) rfl) (encN_ok [q]) (by unfold maxLen; omega) (by omega) (by simp; omega) ?_); intro A3 c3 w5 ho5 hg5 hA5)
                    go_step3
                    go_wp2_with fail
                    have hb5 := below_app (hb2.alloc (by omega) _) hg5 (by simp; omega) (fun a ha => (ho2.lt a ha).1)
                    have hit5 : w5.heap[w2.heap.size + 1]? = some (.stringIter s (q + W)) := (hg5.block (w2.heap.size + 1) (by simp; omega) (fun e => by cases A with | none => cases e | some a => simp at e; exact hA a rfl e.symm)).trans ((Below.heap_alloc _ _ _ hsz2).trans hit2)
                    have hA6 : ∀ a, A3 = some a → a.block ≠ w2.heap.size + 1 := fun a ha => by
                      rcases hA5 with e | e
                      · exact hA a (by rw [← e]; exact ha)
                      · rw [e] at ha; injection ha with ha; subst ha; simp; omega
                    refine (show Exit.inBlock 1 _ Exit.normal _ _ from ?_)
                    try go_wp2
                    go_roundw
                    case rel => exact ⟨q + W, g, i + 1 + 1, ((i + 1 : Nat) : Int), false, false, fl + 1, A3, n + 1, c3, O ++ [q], rfl, by first | rfl | (push_cast; rfl), by omega, rfl, rfl, by go_num, hit5, by rw [List.map_append]; exact ho5, hA6, by omega, by omega, by omega, by omega, HN2, hb5⟩
                    case measure => rw [iterPos_of hit5, Hpos.out]; omega
          · skip
            have c12 : (((y : Nat) : Int) == 12) = false := by rw [hc]; rfl
            have d12 : (y == 12) = false := by rw [hc]; rfl
            have c13 : (((y : Nat) : Int) == 13) = false := by rw [hc]; rfl
            have d13 : (y == 13) = false := by rw [hc]; rfl
            have c5 : (((y : Nat) : Int) == 5) = true := by rw [hc]; rfl
            have d5 : (y == 5) = true := by rw [hc]; rfl
            have c4 : (((y : Nat) : Int) == 4) = false := by rw [hc]; rfl
            have d4 : (y == 4) = false := by rw [hc]; rfl
            have d13p : (y = 13) = False := by simp [hc]
            have Hd := Lib.hid (And.intro d12 (And.intro d13 (And.intro d5 (And.intro d4 d13p))))
            clear d12 d13 d5 d4 d13p hc
            cases jz with
            | true =>
              cases pc with
              | true =>
                have HN2 : Hid (GbAt gG s g (q + W) (i + 1 + 1) false true 0 O) := Lib.hid (by
                  have h := HN.out
                  rw [HY.out, Hd.out.1, Hd.out.2.1, Hd.out.2.2.1, Hd.out.2.2.2.1, hjz] at h
                  simpa [Hd.out.2.2.2.2] using h)
                clear HN
                go_wp2_with fail
                refine wp_scope_on 0 rfl ?_
                go_wp2_with fail
                refine HJ.out.mono ?_
                rintro e wj ⟨rfl, rfl⟩
                go_wp2_with fail
                go_step3
                refine (⟨rfl, ?_⟩ : _ ∧ _)
                show Code.wp _ _ _ _ _
                go_wp2_with fail
                refine (show Exit.inBlock 1 _ Exit.normal _ _ from ?_)
                try go_wp2
                go_roundw
                case rel => exact ⟨q + W, g, i + 1 + 1, ((i + 1 : Nat) : Int), false, true, 0, A, n, c, O, rfl, by first | rfl | (push_cast; rfl), by omega, rfl, rfl, rfl, hit2, ho2, hA, by omega, by omega, by omega, by omega, HN2, hb2⟩
                case measure => rw [iterPos_of hit2, Hpos.out]; omega
              | false =>
                have HN2 : Hid (GbAt gG s g (q + W) (i + 1 + 1) false false 0 O) := Lib.hid (by
                  have h := HN.out
                  rw [HY.out, Hd.out.1, Hd.out.2.1, Hd.out.2.2.1, Hd.out.2.2.2.1, hjz] at h
                  simpa [Hd.out.2.2.2.2] using h)
                clear HN
                go_wp2_with fail
                refine wp_scope_on 0 rfl ?_
                go_wp2_with fail
                refine HJ.out.mono ?_
                rintro e wj ⟨rfl, rfl⟩
                go_wp2_with fail
                go_step3
                refine (⟨rfl, ?_⟩ : _ ∧ _)
                show Code.wp _ _ _ _ _
                go_wp2_with fail
                refine (show Exit.inBlock 1 _ Exit.normal _ _ from ?_)
                try go_wp2
                go_roundw
                case rel => exact ⟨q + W, g, i + 1 + 1, ((i + 1 : Nat) : Int), false, false, 0, A, n, c, O, rfl, by first | rfl | (push_cast; rfl), by omega, rfl, rfl, rfl, hit2, ho2, hA, by omega, by omega, by omega, by omega, HN2, hb2⟩
                case measure => rw [iterPos_of hit2, Hpos.out]; omega
            | false =>
              cases jn with
              | true =>
                cases pc with
                | true =>
                  have HN2 : Hid (GbAt gG s g (q + W) (i + 1 + 1) false true 0 (O ++ [q])) := Lib.hid (by
                    have h := HN.out
                    rw [HY.out, Hd.out.1, Hd.out.2.1, Hd.out.2.2.1, Hd.out.2.2.2.1, hjz] at h
                    simpa [Hd.out.2.2.2.2] using h)
                  clear HN
                  go_wp2_with fail
                  refine wp_scope_on 0 rfl ?_
                  go_wp2_with fail
                  refine HJ.out.mono ?_
                  rintro e wj ⟨rfl, rfl⟩
                  go_wp2_with (at_builtin; go_must (refine wpList_app rfl (.tmp 53) (.tmp 55) _ rfl w2.heap.size 3 i0 _ 1 8 Tryz.underlying23 hi0 hz0 hz1 hz2 rfl (by omega) A n c (O.map encN) rfl (ho2.alloc _) _ 1 1 [encN q] rfl rfl (Rd.newAt (by simp) rfl) (encN_ok [q]) (by unfold maxLen; omega) (by omega) (by simp; omega) ?_); intro A3 c3 w5 ho5 hg5 hA5)
                  go_step3
                  go_wp2_with fail
                  have hb5 := below_app (hb2.alloc (by omega) _) hg5 (by simp; omega) (fun a ha => (ho2.lt a ha).1)
                  have hit5 : w5.heap[w2.heap.size + 1]? = some (.stringIter s (q + W)) := (hg5.block (w2.heap.size + 1) (by simp; omega) (fun e => by cases A with | none => cases e | some a => simp at e; exact hA a rfl e.symm)).trans ((Below.heap_alloc _ _ _ hsz2).trans hit2)
                  have hA6 : ∀ a, A3 = some a → a.block ≠ w2.heap.size + 1 := fun a ha => by
                    rcases hA5 with e | e
                    · exact hA a (by rw [← e]; exact ha)
                    · rw [e] at ha; injection ha with ha; subst ha; simp; omega
                  refine (show Exit.inBlock 1 _ Exit.normal _ _ from ?_)
                  try go_wp2
                  go_roundw
                  case rel => exact ⟨q + W, g, i + 1 + 1, ((i + 1 : Nat) : Int), false, true, 0, A3, n + 1, c3, O ++ [q], rfl, by first | rfl | (push_cast; rfl), by omega, rfl, rfl, rfl, hit5, by rw [List.map_append]; exact ho5, hA6, by omega, by omega, by omega, by omega, HN2, hb5⟩
                  case measure => rw [iterPos_of hit5, Hpos.out]; omega
                | false =>
                  have HN2 : Hid (GbAt gG s g (q + W) (i + 1 + 1) false false 0 (O ++ [q])) := Lib.hid (by
                    have h := HN.out
                    rw [HY.out, Hd.out.1, Hd.out.2.1, Hd.out.2.2.1, Hd.out.2.2.2.1, hjz] at h
                    simpa [Hd.out.2.2.2.2] using h)
                  clear HN
                  go_wp2_with fail
                  refine wp_scope_on 0 rfl ?_
                  go_wp2_with fail
                  refine HJ.out.mono ?_
                  rintro e wj ⟨rfl, rfl⟩
                  go_wp2_with (at_builtin; go_must (refine wpList_app rfl (.tmp 53) (.tmp 55) _ rfl w2.heap.size 3 i0 _ 1 8 Tryz.underlying23 hi0 hz0 hz1 hz2 rfl (by omega) A n c (O.map encN) rfl (ho2.alloc _) _ 1 1 [encN q] rfl rfl (Rd.newAt (by simp) rfl) (encN_ok [q]) (by unfold maxLen; omega) (by omega) (by simp; omega) ?_); intro A3 c3 w5 ho5 hg5 hA5)
                  go_step3
                  go_wp2_with fail
                  have hb5 := below_app (hb2.alloc (by omega) _) hg5 (by simp; omega) (fun a ha => (ho2.lt a ha).1)
                  have hit5 : w5.heap[w2.heap.size + 1]? = some (.stringIter s (q + W)) := (hg5.block (w2.heap.size + 1) (by simp; omega) (fun e => by cases A with | none => cases e | some a => simp at e; exact hA a rfl e.symm)).trans ((Below.heap_alloc _ _ _ hsz2).trans hit2)
                  have hA6 : ∀ a, A3 = some a → a.block ≠ w2.heap.size + 1 := fun a ha => by
                    rcases hA5 with e | e
                    · exact hA a (by rw [← e]; exact ha)
                    · rw [e] at ha; injection ha with ha; subst ha; simp; omega
                  refine (show Exit.inBlock 1 _ Exit.normal _ _ from ?_)
                  try go_wp2
                  go_roundw
                  case rel => exact ⟨q + W, g, i + 1 + 1, ((i + 1 : Nat) : Int), false, false, 0, A3, n + 1, c3, O ++ [q], rfl, by first | rfl | (push_cast; rfl), by omega, rfl, rfl, rfl, hit5, by rw [List.map_append]; exact ho5, hA6, by omega, by omega, by omega, by omega, HN2, hb5⟩
                  case measure => rw [iterPos_of hit5, Hpos.out]; omega
              | false =>
                cases pc with
                | true =>
                  have HN2 : Hid (GbAt gG s g (q + W) (i + 1 + 1) false true 0 (O ++ [q])) := Lib.hid (by
                    have h := HN.out
                    rw [HY.out, Hd.out.1, Hd.out.2.1, Hd.out.2.2.1, Hd.out.2.2.2.1, hjz] at h
                    simpa [Hd.out.2.2.2.2] using h)
                  clear HN
                  go_wp2_with fail
                  refine wp_scope_on 0 rfl ?_
                  go_wp2_with fail
                  refine HJ.out.mono ?_
                  rintro e wj ⟨rfl, rfl⟩
                  go_wp2_with (at_builtin; go_must (refine wpList_app rfl (.tmp 53) (.tmp 55) _ rfl w2.heap.size 3 i0 _ 1 8 Tryz.underlying23 hi0 hz0 hz1 hz2 rfl (by omega) A n c (O.map encN) rfl (ho2.alloc _) _ 1 1 [encN q] rfl rfl (Rd.newAt (by simp) rfl) (encN_ok [q]) (by unfold maxLen; omega) (by omega) (by simp; omega) ?_); intro A3 c3 w5 ho5 hg5 hA5)
                  go_step3
                  go_wp2_with fail
                  have hb5 := below_app (hb2.alloc (by omega) _) hg5 (by simp; omega) (fun a ha => (ho2.lt a ha).1)
                  have hit5 : w5.heap[w2.heap.size + 1]? = some (.stringIter s (q + W)) := (hg5.block (w2.heap.size + 1) (by simp; omega) (fun e => by cases A with | none => cases e | some a => simp at e; exact hA a rfl e.symm)).trans ((Below.heap_alloc _ _ _ hsz2).trans hit2)
                  have hA6 : ∀ a, A3 = some a → a.block ≠ w2.heap.size + 1 := fun a ha => by
                    rcases hA5 with e | e
                    · exact hA a (by rw [← e]; exact ha)
                    · rw [e] at ha; injection ha with ha; subst ha; simp; omega
                  refine (show Exit.inBlock 1 _ Exit.normal _ _ from ?_)
                  try go_wp2
                  go_roundw
                  case rel => exact ⟨q + W, g, i + 1 + 1, ((i + 1 : Nat) : Int), false, true, 0, A3, n + 1, c3, O ++ [q], rfl, by first | rfl | (push_cast; rfl), by omega, rfl, rfl, rfl, hit5, by rw [List.map_append]; exact ho5, hA6, by omega, by omega, by omega, by omega, HN2, hb5⟩
                  case measure => rw [iterPos_of hit5, Hpos.out]; omega
                | false =>
                  have HN2 : Hid (GbAt gG s g (q + W) (i + 1 + 1) false false 0 (O ++ [q])) := Lib.hid (by
                    have h := HN.out
                    rw [HY.out, Hd.out.1, Hd.out.2.1, Hd.out.2.2.1, Hd.out.2.2.2.1, hjz] at h
                    simpa [Hd.out.2.2.2.2] using h)
                  clear HN
                  go_wp2_with fail
                  refine wp_scope_on 0 rfl ?_
                  go_wp2_with fail
                  refine HJ.out.mono ?_
                  rintro e wj ⟨rfl, rfl⟩
                  go_wp2_with (at_builtin; go_must (refine wpList_app rfl (.tmp 53) (.tmp 55) _ rfl w2.heap.size 3 i0 _ 1 8 Tryz.underlying23 hi0 hz0 hz1 hz2 rfl (by omega) A n c (O.map encN) rfl (ho2.alloc _) _ 1 1 [encN q] rfl rfl (Rd.newAt (by simp) rfl) (encN_ok [q]) (by unfold maxLen; omega) (by omega) (by simp; omega) ?_); intro A3 c3 w5 ho5 hg5 hA5)
                  go_step3
                  go_wp2_with fail
                  have hb5 := below_app (hb2.alloc (by omega) _) hg5 (by simp; omega) (fun a ha => (ho2.lt a ha).1)
                  have hit5 : w5.heap[w2.heap.size + 1]? = some (.stringIter s (q + W)) := (hg5.block (w2.heap.size + 1) (by simp; omega) (fun e => by cases A with | none => cases e | some a => simp at e; exact hA a rfl e.symm)).trans ((Below.heap_alloc _ _ _ hsz2).trans hit2)
                  have hA6 : ∀ a, A3 = some a → a.block ≠ w2.heap.size + 1 := fun a ha => by
                    rcases hA5 with e | e
                    · exact hA a (by rw [← e]; exact ha)
                    · rw [e] at ha; injection ha with ha; subst ha; simp; omega
                  refine (show Exit.inBlock 1 _ Exit.normal _ _ from ?_)
                  try go_wp2
                  go_roundw
                  case rel => exact ⟨q + W, g, i + 1 + 1, ((i + 1 : Nat) : Int), false, false, 0, A3, n + 1, c3, O ++ [q], rfl, by first | rfl | (push_cast; rfl), by omega, rfl, rfl, rfl, hit5, by rw [List.map_append]; exact ho5, hA6, by omega, by omega, by omega, by omega, HN2, hb5⟩
                  case measure => rw [iterPos_of hit5, Hpos.out]; omega
          · skip
            have c12 : (((y : Nat) : Int) == 12) = false := by rw [hc]; rfl
            have d12 : (y == 12) = false := by rw [hc]; rfl
            have c13 : (((y : Nat) : Int) == 13) = false := by rw [hc]; rfl
            have d13 : (y == 13) = false := by rw [hc]; rfl
            have c5 : (((y : Nat) : Int) == 5) = false := by rw [hc]; rfl
            have d5 : (y == 5) = false := by rw [hc]; rfl
            have c4 : (((y : Nat) : Int) == 4) = true := by rw [hc]; rfl
            have d4 : (y == 4) = true := by rw [hc]; rfl
            have d13p : (y = 13) = False := by simp [hc]
            have Hd := Lib.hid (And.intro d12 (And.intro d13 (And.intro d5 (And.intro d4 d13p))))
            clear d12 d13 d5 d4 d13p hc
            cases jz with
            | true =>
              cases pc with
              | true =>
                have HN2 : Hid (GbAt gG s g (q + W) (i + 1 + 1) true false 0 O) := Lib.hid (by
                  have h := HN.out
                  rw [HY.out, Hd.out.1, Hd.out.2.1, Hd.out.2.2.1, Hd.out.2.2.2.1, hjz] at h
                  simpa [Hd.out.2.2.2.2] using h)
                clear HN
                go_wp2_with fail
                refine wp_scope_on 0 rfl ?_
                go_wp2_with fail
                refine HJ.out.mono ?_
                rintro e wj ⟨rfl, rfl⟩
                go_wp2_with fail
                go_step3
                refine (⟨rfl, ?_⟩ : _ ∧ _)
                show Code.wp _ _ _ _ _
                go_wp2_with fail
                refine (show Exit.inBlock 1 _ Exit.normal _ _ from ?_)
                try go_wp2
                go_roundw
                case rel => exact ⟨q + W, g, i + 1 + 1, ((i + 1 : Nat) : Int), true, false, 0, A, n, c, O, rfl, by first | rfl | (push_cast; rfl), by omega, rfl, rfl, rfl, hit2, ho2, hA, by omega, by omega, by omega, by omega, HN2, hb2⟩
                case measure => rw [iterPos_of hit2, Hpos.out]; omega
              | false =>
                have HN2 : Hid (GbAt gG s g (q + W) (i + 1 + 1) false false 0 O) := Lib.hid (by
                  have h := HN.out
                  rw [HY.out, Hd.out.1, Hd.out.2.1, Hd.out.2.2.1, Hd.out.2.2.2.1, hjz] at h
                  simpa [Hd.out.2.2.2.2] using h)
                clear HN
                go_wp2_with fail
                refine wp_scope_on 0 rfl ?_
                go_wp2_with fail
                refine HJ.out.mono ?_
                rintro e wj ⟨rfl, rfl⟩
                go_wp2_with fail
                go_step3
                refine (⟨rfl, ?_⟩ : _ ∧ _)
                show Code.wp _ _ _ _ _
                go_wp2_with fail
                refine (show Exit.inBlock 1 _ Exit.normal _ _ from ?_)
                try go_wp2
                go_roundw
                case rel => exact ⟨q + W, g, i + 1 + 1, ((i + 1 : Nat) : Int), false, false, 0, A, n, c, O, rfl, by first | rfl | (push_cast; rfl), by omega, rfl, rfl, rfl, hit2, ho2, hA, by omega, by omega, by omega, by omega, HN2, hb2⟩
                case measure => rw [iterPos_of hit2, Hpos.out]; omega
            | false =>
              cases jn with
              | true =>
                cases pc with
                | true =>
                  have HN2 : Hid (GbAt gG s g (q + W) (i + 1 + 1) true false 0 (O ++ [q])) := Lib.hid (by
                    have h := HN.out
                    rw [HY.out, Hd.out.1, Hd.out.2.1, Hd.out.2.2.1, Hd.out.2.2.2.1, hjz] at h
                    simpa [Hd.out.2.2.2.2] using h)
                  clear HN
                  go_wp2_with fail
                  refine wp_scope_on 0 rfl ?_
                  go_wp2_with fail
                  refine HJ.out.mono ?_
                  rintro e wj ⟨rfl, rfl⟩
                  go_wp2_with (at_builtin; go_must (refine wpList_app rfl (.tmp 53) (.tmp 55) _ rfl w2.heap.size 3 i0 _ 1 8 Tryz.underlying23 hi0 hz0 hz1 hz2 rfl (by omega) A n c (O.map encN) rfl (ho2.alloc _) _ 1 1 [encN q] rfl rfl (Rd.newAt (by simp) rfl) (encN_ok [q]) (by unfold maxLen; omega) (by omega) (by simp; omega) ?_); intro A3 c3 w5 ho5 hg5 hA5)
                  go_step3
                  go_wp2_with fail
                  have hb5 := below_app (hb2.alloc (by omega) _) hg5 (by simp; omega) (fun a ha => (ho2.lt a ha).1)
                  have hit5 : w5.heap[w2.heap.size + 1]? = some (.stringIter s (q + W)) := (hg5.block (w2.heap.size + 1) (by simp; omega) (fun e => by cases A with | none => cases e | some a => simp at e; exact hA a rfl e.symm)).trans ((Below.heap_alloc _ _ _ hsz2).trans hit2)
                  have hA6 : ∀ a, A3 = some a → a.block ≠ w2.heap.size + 1 := fun a ha => by
                    rcases hA5 with e | e
                    · exact hA a (by rw [← e]; exact ha)
                    · rw [e] at ha; injection ha with ha; subst ha; simp; omega
                  refine (show Exit.inBlock 1 _ Exit.normal _ _ from ?_)
                  try go_wp2
                  go_roundw
                  case rel => exact ⟨q + W, g, i + 1 + 1, ((i + 1 : Nat) : Int), true, false, 0, A3, n + 1, c3, O ++ [q], rfl, by first | rfl | (push_cast; rfl), by omega, rfl, rfl, rfl, hit5, by rw [List.map_append]; exact ho5, hA6, by omega, by omega, by omega, by omega, HN2, hb5⟩
                  case measure => rw [iterPos_of hit5, Hpos.out]; omega
                | false =>
                  have HN2 : Hid (GbAt gG s g (q + W) (i + 1 + 1) false false 0 (O ++ [q])) := Lib.hid (by
                    have h := HN.out
                    rw [HY.out, Hd.out.1, Hd.out.2.1, Hd.out.2.2.1, Hd.out.2.2.2.1, hjz] at h
                    simpa [Hd.out.2.2.2.2] using h)
                  clear HN
                  go_wp2_with fail
                  refine wp_scope_on 0 rfl ?_
                  go_wp2_with fail
                  refine HJ.out.mono ?_
                  rintro e wj ⟨rfl, rfl⟩
                  go_wp2_with (at_builtin; go_must (refine wpList_app rfl (.tmp 53) (.tmp 55) _ rfl w2.heap.size 3 i0 _ 1 8 Tryz.underlying23 hi0 hz0 hz1 hz2 rfl (by omega) A n c (O.map encN) rfl (ho2.alloc _) _ 1 1 [encN q] rfl rfl (Rd.newAt (by simp) rfl) (encN_ok [q]) (by unfold maxLen; omega) (by omega) (by simp; omega) ?_); intro A3 c3 w5 ho5 hg5 hA5)
                  go_step3
                  go_wp2_with fail
                  have hb5 := below_app (hb2.alloc (by omega) _) hg5 (by simp; omega) (fun a ha => (ho2.lt a ha).1)
                  have hit5 : w5.heap[w2.heap.size + 1]? = some (.stringIter s (q + W)) := (hg5.block (w2.heap.size + 1) (by simp; omega) (fun e => by cases A with | none => cases e | some a => simp at e; exact hA a rfl e.symm)).trans ((Below.heap_alloc _ _ _ hsz2).trans hit2)
                  have hA6 : ∀ a, A3 = some a → a.block ≠ w2.heap.size + 1 := fun a ha => by
                    rcases hA5 with e | e
                    · exact hA a (by rw [← e]; exact ha)
                    · rw [e] at ha; injection ha with ha; subst ha; simp; omega
                  refine (show Exit.inBlock 1 _ Exit.normal _ _ from ?_)
                  try go_wp2
                  go_roundw
                  case rel => exact ⟨q + W, g, i + 1 + 1, ((i + 1 : Nat) : Int), false, false, 0, A3, n + 1, c3, O ++ [q], rfl, by first | rfl | (push_cast; rfl), by omega, rfl, rfl, rfl, hit5, by rw [List.map_append]; exact ho5, hA6, by omega, by omega, by omega, by omega, HN2, hb5⟩
                  case measure => rw [iterPos_of hit5, Hpos.out]; omega
              | false =>
                cases pc with
                | true =>
                  have HN2 : Hid (GbAt gG s g (q + W) (i + 1 + 1) true false 0 (O ++ [q])) := Lib.hid (by
                    have h := HN.out
                    rw [HY.out, Hd.out.1, Hd.out.2.1, Hd.out.2.2.1, Hd.out.2.2.2.1, hjz] at h
                    simpa [Hd.out.2.2.2.2] using h)
                  clear HN
                  go_wp2_with fail
                  refine wp_scope_on 0 rfl ?_
                  go_wp2_with fail
                  refine HJ.out.mono ?_
                  rintro e wj ⟨rfl, rfl⟩
                  go_wp2_with (at_builtin; go_must (refine wpList_app rfl (.tmp 53) (.tmp 55) _ rfl w2.heap.size 3 i0 _ 1 8 Tryz.underlying23 hi0 hz0 hz1 hz2 rfl (by omega) A n c (O.map encN) rfl (ho2.alloc _) _ 1 1 [encN q] rfl rfl (Rd.newAt (by simp) rfl) (encN_ok [q]) (by unfold maxLen; omega) (by omega) (by simp; omega) ?_); intro A3 c3 w5 ho5 hg5 hA5)
                  go_step3
                  go_wp2_with fail
                  have hb5 := below_app (hb2.alloc (by omega) _) hg5 (by simp; omega) (fun a ha => (ho2.lt a ha).1)
                  have hit5 : w5.heap[w2.heap.size + 1]? = some (.stringIter s (q + W)) := (hg5.block (w2.heap.size + 1) (by simp; omega) (fun e => by cases A with | none => cases e | some a => simp at e; exact hA a rfl e.symm)).trans ((Below.heap_alloc _ _ _ hsz2).trans hit2)
                  have hA6 : ∀ a, A3 = some a → a.block ≠ w2.heap.size + 1 := fun a ha => by
                    rcases hA5 with e | e
                    · exact hA a (by rw [← e]; exact ha)
                    · rw [e] at ha; injection ha with ha; subst ha; simp; omega
                  refine (show Exit.inBlock 1 _ Exit.normal _ _ from ?_)
                  try go_wp2
                  go_roundw
                  case rel => exact ⟨q + W, g, i + 1 + 1, ((i + 1 : Nat) : Int), true, false, 0, A3, n + 1, c3, O ++ [q], rfl, by first | rfl | (push_cast; rfl), by omega, rfl, rfl, rfl, hit5, by rw [List.map_append]; exact ho5, hA6, by omega, by omega, by omega, by omega, HN2, hb5⟩
                  case measure => rw [iterPos_of hit5, Hpos.out]; omega
                | false =>
                  have HN2 : Hid (GbAt gG s g (q + W) (i + 1 + 1) false false 0 (O ++ [q])) := Lib.hid (by
                    have h := HN.out
                    rw [HY.out, Hd.out.1, Hd.out.2.1, Hd.out.2.2.1, Hd.out.2.2.2.1, hjz] at h
                    simpa [Hd.out.2.2.2.2] using h)
                  clear HN
                  go_wp2_with fail
                  refine wp_scope_on 0 rfl ?_
                  go_wp2_with fail
                  refine HJ.out.mono ?_
                  rintro e wj ⟨rfl, rfl⟩
                  go_wp2_with (at_builtin; go_must (refine wpList_app rfl (.tmp 53) (.tmp 55) _ rfl w2.heap.size 3 i0 _ 1 8 Tryz.underlying23 hi0 hz0 hz1 hz2 rfl (by omega) A n c (O.map encN) rfl (ho2.alloc _) _ 1 1 [encN q] rfl rfl (Rd.newAt (by simp) rfl) (encN_ok [q]) (by unfold maxLen; omega) (by omega) (by simp; omega) ?_); intro A3 c3 w5 ho5 hg5 hA5)
                  go_step3
                  go_wp2_with fail
                  have hb5 := below_app (hb2.alloc (by omega) _) hg5 (by simp; omega) (fun a ha => (ho2.lt a ha).1)
                  have hit5 : w5.heap[w2.heap.size + 1]? = some (.stringIter s (q + W)) := (hg5.block (w2.heap.size + 1) (by simp; omega) (fun e => by cases A with | none => cases e | some a => simp at e; exact hA a rfl e.symm)).trans ((Below.heap_alloc _ _ _ hsz2).trans hit2)
                  have hA6 : ∀ a, A3 = some a → a.block ≠ w2.heap.size + 1 := fun a ha => by
                    rcases hA5 with e | e
                    · exact hA a (by rw [← e]; exact ha)
                    · rw [e] at ha; injection ha with ha; subst ha; simp; omega
                  refine (show Exit.inBlock 1 _ Exit.normal _ _ from ?_)
                  try go_wp2
                  go_roundw
                  case rel => exact ⟨q + W, g, i + 1 + 1, ((i + 1 : Nat) : Int), false, false, 0, A3, n + 1, c3, O ++ [q], rfl, by first | rfl | (push_cast; rfl), by omega, rfl, rfl, rfl, hit5, by rw [List.map_append]; exact ho5, hA6, by omega, by omega, by omega, by omega, HN2, hb5⟩
                  case measure => rw [iterPos_of hit5, Hpos.out]; omega
          · skip
            have c12 : (((y : Nat) : Int) == 12) = false := beq_eq_false_iff_ne.2 (by omega)
            have d12 : (y == 12) = false := beq_eq_false_iff_ne.2 k12
            have c13 : (((y : Nat) : Int) == 13) = false := beq_eq_false_iff_ne.2 (by omega)
            have d13 : (y == 13) = false := beq_eq_false_iff_ne.2 k13
            have c5 : (((y : Nat) : Int) == 5) = false := beq_eq_false_iff_ne.2 (by omega)
            have d5 : (y == 5) = false := beq_eq_false_iff_ne.2 k5
            have c4 : (((y : Nat) : Int) == 4) = false := beq_eq_false_iff_ne.2 (by omega)
            have d4 : (y == 4) = false := beq_eq_false_iff_ne.2 k4
            have d13p : (y = 13) = False := by simp [k13]
            have Hd := Lib.hid (And.intro d12 (And.intro d13 (And.intro d5 (And.intro d4 d13p))))
            clear d12 d13 d5 d4 d13p k12 k13 k5 k4
            cases jz with
            | true =>
              cases pc with
              | true =>
                have HN2 : Hid (GbAt gG s g (q + W) (i + 1 + 1) false false 0 O) := Lib.hid (by
                  have h := HN.out
                  rw [HY.out, Hd.out.1, Hd.out.2.1, Hd.out.2.2.1, Hd.out.2.2.2.1, hjz] at h
                  simpa [Hd.out.2.2.2.2] using h)
                clear HN
                go_wp2_with fail
                refine wp_scope_on 0 rfl ?_
                go_wp2_with fail
                refine HJ.out.mono ?_
                rintro e wj ⟨rfl, rfl⟩
                go_wp2_with fail
                go_step3
                refine (⟨rfl, ?_⟩ : _ ∧ _)
                show Code.wp _ _ _ _ _
                go_wp2_with fail
                refine (show Exit.inBlock 1 _ Exit.normal _ _ from ?_)
                try go_wp2
                go_roundw
                case rel => exact ⟨q + W, g, i + 1 + 1, ((i + 1 : Nat) : Int), false, false, 0, A, n, c, O, rfl, by first | rfl | (push_cast; rfl), by omega, rfl, rfl, rfl, hit2, ho2, hA, by omega, by omega, by omega, by omega, HN2, hb2⟩
                case measure => rw [iterPos_of hit2, Hpos.out]; omega
              | false =>
                have HN2 : Hid (GbAt gG s g (q + W) (i + 1 + 1) false false 0 O) := Lib.hid (by
                  have h := HN.out
                  rw [HY.out, Hd.out.1, Hd.out.2.1, Hd.out.2.2.1, Hd.out.2.2.2.1, hjz] at h
                  simpa [Hd.out.2.2.2.2] using h)
                clear HN
                go_wp2_with fail
                refine wp_scope_on 0 rfl ?_
                go_wp2_with fail
                refine HJ.out.mono ?_
                rintro e wj ⟨rfl, rfl⟩
                go_wp2_with fail
                go_step3
                refine (⟨rfl, ?_⟩ : _ ∧ _)
                show Code.wp _ _ _ _ _
                go_wp2_with fail
                refine (show Exit.inBlock 1 _ Exit.normal _ _ from ?_)
                try go_wp2
                go_roundw
                case rel => exact ⟨q + W, g, i + 1 + 1, ((i + 1 : Nat) : Int), false, false, 0, A, n, c, O, rfl, by first | rfl | (push_cast; rfl), by omega, rfl, rfl, rfl, hit2, ho2, hA, by omega, by omega, by omega, by omega, HN2, hb2⟩
                case measure => rw [iterPos_of hit2, Hpos.out]; omega
            | false =>
              cases jn with
              | true =>
                cases pc with
                | true =>
                  have HN2 : Hid (GbAt gG s g (q + W) (i + 1 + 1) false false 0 (O ++ [q])) := Lib.hid (by
                    have h := HN.out
                    rw [HY.out, Hd.out.1, Hd.out.2.1, Hd.out.2.2.1, Hd.out.2.2.2.1, hjz] at h
                    simpa [Hd.out.2.2.2.2] using h)
                  clear HN
                  go_wp2_with fail
                  refine wp_scope_on 0 rfl ?_
                  go_wp2_with fail
                  refine HJ.out.mono ?_
                  rintro e wj ⟨rfl, rfl⟩
                  go_wp2_with (at_builtin; go_must (refine wpList_app rfl (.tmp 53) (.tmp 55) _ rfl w2.heap.size 3 i0 _ 1 8 Tryz.underlying23 hi0 hz0 hz1 hz2 rfl (by omega) A n c (O.map encN) rfl (ho2.alloc _) _ 1 1 [encN q] rfl rfl (Rd.newAt (by simp) rfl) (encN_ok [q]) (by unfold maxLen; omega) (by omega) (by simp; omega) ?_); intro A3 c3 w5 ho5 hg5 hA5)
                  go_step3
                  go_wp2_with fail
                  have hb5 := below_app (hb2.alloc (by omega) _) hg5 (by simp; omega) (fun a ha => (ho2.lt a ha).1)
                  have hit5 : w5.heap[w2.heap.size + 1]? = some (.stringIter s (q + W)) := (hg5.block (w2.heap.size + 1) (by simp; omega) (fun e => by cases A with | none => cases e | some a => simp at e; exact hA a rfl e.symm)).trans ((Below.heap_alloc _ _ _ hsz2).trans hit2)
                  have hA6 : ∀ a, A3 = some a → a.block ≠ w2.heap.size + 1 := fun a ha => by
                    rcases hA5 with e | e
                    · exact hA a (by rw [← e]; exact ha)
                    · rw [e] at ha; injection ha with ha; subst ha; simp; omega
                  refine (show Exit.inBlock 1 _ Exit.normal _ _ from ?_)
                  try go_wp2
                  go_roundw
                  case rel => exact ⟨q + W, g, i + 1 + 1, ((i + 1 : Nat) : Int), false, false, 0, A3, n + 1, c3, O ++ [q], rfl, by first | rfl | (push_cast; rfl), by omega, rfl, rfl, rfl, hit5, by rw [List.map_append]; exact ho5, hA6, by omega, by omega, by omega, by omega, HN2, hb5⟩
                  case measure => rw [iterPos_of hit5, Hpos.out]; omega
                | false =>
                  have HN2 : Hid (GbAt gG s g (q + W) (i + 1 + 1) false false 0 (O ++ [q])) := Lib.hid (by
                    have h := HN.out
                    rw [HY.out, Hd.out.1, Hd.out.2.1, Hd.out.2.2.1, Hd.out.2.2.2.1, hjz] at h
                    simpa [Hd.out.2.2.2.2] using h)
                  clear HN
                  go_wp2_with fail
                  refine wp_scope_on 0 rfl ?_
                  go_wp2_with fail
                  refine HJ.out.mono ?_
                  rintro e wj ⟨rfl, rfl⟩
                  go_wp2_with (at_builtin; go_must (refine wpList_app rfl (.tmp 53) (.tmp 55) _ rfl w2.heap.size 3 i0 _ 1 8 Tryz.underlying23 hi0 hz0 hz1 hz2 rfl (by omega) A n c (O.map encN) rfl (ho2.alloc _) _ 1 1 [encN q] rfl rfl (Rd.newAt (by simp) rfl) (encN_ok [q]) (by unfold maxLen; omega) (by omega) (by simp; omega) ?_); intro A3 c3 w5 ho5 hg5 hA5)
                  go_step3
                  go_wp2_with fail
                  have hb5 := below_app (hb2.alloc (by omega) _) hg5 (by simp; omega) (fun a ha => (ho2.lt a ha).1)
                  have hit5 : w5.heap[w2.heap.size + 1]? = some (.stringIter s (q + W)) := (hg5.block (w2.heap.size + 1) (by simp; omega) (fun e => by cases A with | none => cases e | some a => simp at e; exact hA a rfl e.symm)).trans ((Below.heap_alloc _ _ _ hsz2).trans hit2)
                  have hA6 : ∀ a, A3 = some a → a.block ≠ w2.heap.size + 1 := fun a ha => by
                    rcases hA5 with e | e
                    · exact hA a (by rw [← e]; exact ha)
                    · rw [e] at ha; injection ha with ha; subst ha; simp; omega
                  refine (show Exit.inBlock 1 _ Exit.normal _ _ from ?_)
                  try go_wp2
                  go_roundw
                  case rel => exact ⟨q + W, g, i + 1 + 1, ((i + 1 : Nat) : Int), false, false, 0, A3, n + 1, c3, O ++ [q], rfl, by first | rfl | (push_cast; rfl), by omega, rfl, rfl, rfl, hit5, by rw [List.map_append]; exact ho5, hA6, by omega, by omega, by omega, by omega, HN2, hb5⟩
                  case measure => rw [iterPos_of hit5, Hpos.out]; omega
              | false =>
                cases pc with
                | true =>
                  have HN2 : Hid (GbAt gG s g (q + W) (i + 1 + 1) false false 0 (O ++ [q])) := Lib.hid (by
                    have h := HN.out
                    rw [HY.out, Hd.out.1, Hd.out.2.1, Hd.out.2.2.1, Hd.out.2.2.2.1, hjz] at h
                    simpa [Hd.out.2.2.2.2] using h)
                  clear HN
                  go_wp2_with fail
                  refine wp_scope_on 0 rfl ?_
                  go_wp2_with fail
                  refine HJ.out.mono ?_
                  rintro e wj ⟨rfl, rfl⟩
                  go_wp2_with (at_builtin; go_must (refine wpList_app rfl (.tmp 53) (.tmp 55) _ rfl w2.heap.size 3 i0 _ 1 8 Tryz.underlying23 hi0 hz0 hz1 hz2 rfl (by omega) A n c (O.map encN) rfl (ho2.alloc _) _ 1 1 [encN q] rfl rfl (Rd.newAt (by simp) rfl) (encN_ok [q]) (by unfold maxLen; omega) (by omega) (by simp; omega) ?_); intro A3 c3 w5 ho5 hg5 hA5)
                  go_step3
                  go_wp2_with fail
                  have hb5 := below_app (hb2.alloc (by omega) _) hg5 (by simp; omega) (fun a ha => (ho2.lt a ha).1)
                  have hit5 : w5.heap[w2.heap.size + 1]? = some (.stringIter s (q + W)) := (hg5.block (w2.heap.size + 1) (by simp; omega) (fun e => by cases A with | none => cases e | some a => simp at e; exact hA a rfl e.symm)).trans ((Below.heap_alloc _ _ _ hsz2).trans hit2)
                  have hA6 : ∀ a, A3 = some a → a.block ≠ w2.heap.size + 1 := fun a ha => by
                    rcases hA5 with e | e
                    · exact hA a (by rw [← e]; exact ha)
                    · rw [e] at ha; injection ha with ha; subst ha; simp; omega
                  refine (show Exit.inBlock 1 _ Exit.normal _ _ from ?_)
                  try go_wp2
                  go_roundw
                  case rel => exact ⟨q + W, g, i + 1 + 1, ((i + 1 : Nat) : Int), false, false, 0, A3, n + 1, c3, O ++ [q], rfl, by first | rfl | (push_cast; rfl), by omega, rfl, rfl, rfl, hit5, by rw [List.map_append]; exact ho5, hA6, by omega, by omega, by omega, by omega, HN2, hb5⟩
                  case measure => rw [iterPos_of hit5, Hpos.out]; omega
                | false =>
                  have HN2 : Hid (GbAt gG s g (q + W) (i + 1 + 1) false false 0 (O ++ [q])) := Lib.hid (by
                    have h := HN.out
                    rw [HY.out, Hd.out.1, Hd.out.2.1, Hd.out.2.2.1, Hd.out.2.2.2.1, hjz] at h
                    simpa [Hd.out.2.2.2.2] using h)
                  clear HN
                  go_wp2_with fail
                  refine wp_scope_on 0 rfl ?_
                  go_wp2_with fail
                  refine HJ.out.mono ?_
                  rintro e wj ⟨rfl, rfl⟩
                  go_wp2_with (at_builtin; go_must (refine wpList_app rfl (.tmp 53) (.tmp 55) _ rfl w2.heap.size 3 i0 _ 1 8 Tryz.underlying23 hi0 hz0 hz1 hz2 rfl (by omega) A n c (O.map encN) rfl (ho2.alloc _) _ 1 1 [encN q] rfl rfl (Rd.newAt (by simp) rfl) (encN_ok [q]) (by unfold maxLen; omega) (by omega) (by simp; omega) ?_); intro A3 c3 w5 ho5 hg5 hA5)
                  go_step3
                  go_wp2_with fail
                  have hb5 := below_app (hb2.alloc (by omega) _) hg5 (by simp; omega) (fun a ha => (ho2.lt a ha).1)
                  have hit5 : w5.heap[w2.heap.size + 1]? = some (.stringIter s (q + W)) := (hg5.block (w2.heap.size + 1) (by simp; omega) (fun e => by cases A with | none => cases e | some a => simp at e; exact hA a rfl e.symm)).trans ((Below.heap_alloc _ _ _ hsz2).trans hit2)
                  have hA6 : ∀ a, A3 = some a → a.block ≠ w2.heap.size + 1 := fun a ha => by
                    rcases hA5 with e | e
                    · exact hA a (by rw [← e]; exact ha)
                    · rw [e] at ha; injection ha with ha; subst ha; simp; omega
                  refine (show Exit.inBlock 1 _ Exit.normal _ _ from ?_)
                  try go_wp2
                  go_roundw
                  case rel => exact ⟨q + W, g, i + 1 + 1, ((i + 1 : Nat) : Int), false, false, 0, A3, n + 1, c3, O ++ [q], rfl, by first | rfl | (push_cast; rfl), by omega, rfl, rfl, rfl, hit5, by rw [List.map_append]; exact ho5, hA6, by omega, by omega, by omega, by omega, HN2, hb5⟩
                  case measure => rw [iterPos_of hit5, Hpos.out]; omega
      · have hnx : ∀ ty, (Instr.next (.pointer (some ⟨w2.heap.size + 1, 0, none⟩)) true ty).run Tryz.prog wr = _ := fun ty => Lib.run_next_end_at wr (w2.heap.size + 1) s q ty hit hp
        have HE := Lib.hid (gbAt_end HG.out hp h0)
        have hszr := hb.size
        go_wp2_with (at_builtin; go_must (refine wpList_app rfl (.tmp 75) (.tmp 78) _ rfl w2.heap.size 3 i0 _ 1 8 Tryz.underlying23 hi0 hz0 hz1 hz2 rfl (by omega) A n c (O.map encN) rfl (ho.alloc _) _ 1 1 [encN s.size] rfl rfl (Rd.newAt (by simp) rfl) (encN_ok [s.size]) (by unfold maxLen; omega) (by omega) (by simp; omega) ?_); intro A3 c3 w5 ho5 hg5 hA5)
        have hb5 := below_app (hb.alloc (by omega) _) hg5 (by simp; omega) (fun a ha => (ho.lt a ha).1)
        go_ret
        exact ⟨A3, n + 1, c3, rfl, by rw [← HE.out, List.map_append]; exact ho5.more hsz3, below_step hb3 hb5 hsz3⟩
  · have hem : s.toList.isEmpty = true := by
      rw [ByteArray.toList_eq]
      have : s.data.toList.length = 0 := by rw [size_data]; omega
      rw [List.length_eq_zero_iff.1 this]; rfl
    have HV : Hid (boundsG gG s = []) := Lib.hid (by unfold boundsG; rw [if_pos (by omega)])
    go_enter Tryz.func15, Tryz.ntmps15
    go_wp2
    go_ret
    exact ⟨none, 0, 0, rfl, by rw [HV.out]; exact Own.nil_ _ _ _ _, Below.refl _ _⟩
end Go.Proofs.YtdnkignhenkamaaGreatDoor

/- -/
namespace Go.Proofs.YtdnkignhenkamaaGreatDoor
open Go.RowKit
theorem infoB8 : (Tryz.prog.info? 5).map (fun i => (i.zero, i.size, i.bytes)) = some (some (.int .u8 0), 1, 1) := by kernel_rfl
set_option maxRecDepth 100000 in
set_option maxHeartbeats 2000000 in
theorem gCount_any (s : ByteArray) (w : World) (hE : Env w) (hs : s.size ≤ 1000000) :
    Calls Tryz.prog 19 #[.string s] w fun e w' => e = .returned (.int .i64 (countG s : Nat)) ∧ Below w.heap.size w w' := by
  have HB := Lib.hid (gBounds_any s w hE hs)
  have HL := Lib.hid (bounds_len s)
  clear hE
  go_enter Tryz.func19, Tryz.ntmps19
  go_wp2_with fail
  refine HB.out.mono ?_
  rintro e w1 ⟨A, n, c, rfl, ho, hb1⟩
  have hn : (boundsG gG s).length = n := by have := ho.len; simpa using this
  have HV : Hid (countG s = n - 1) := Lib.hid (by unfold countG; rw [hn])
  have hz : n ≤ 1000001 := by have := HL.out; omega
  clear hn ho
  cases n with
  | zero =>
    go_wp2
    go_ret
    exact ⟨by rw [HV.out]; rfl, hb1⟩
  | succ k =>
    have HV2 : Hid (countG s = k) := Lib.hid (by rw [HV.out]; rfl)
    have e1 : ((k + 1 : Nat) : Int) - 1 = (k : Int) := by omega
    have e2 : IntKind.i64.wrap (((k + 1 : Nat) : Int) - 1) = (k : Int) := by rw [e1]; exact IntWalk.i64_in _ (by omega)
    have e3 : max (k : Int) 0 = (k : Int) := by omega
    go_wp2
    go_ret
    exact ⟨by rw [HV2.out]; rfl, hb1⟩
theorem search_own {w : World} {base : Nat} {A : Option Addr} {n c : Nat} {L : List Nat} (x : Int) (ho : Own w base 3 1 A n c (L.map encN)) (hr : L.Pairwise (· < ·)) (hz : n ≤ 4000000) :
    Calls Tryz.prog 70 #[.slice A n c, .int .i64 x] w fun e w' => (∃ k : Int, e = .returned (.tuple #[.int .i64 k, .bool ((L.map fun (a : Nat) => (a : Int)).contains x)])) ∧ Below w.heap.size w w' := by
  have hn : L.length = n := by have := ho.len; simpa using this
  have rd := ho.rd (by decide)
  cases L with
  | nil =>
    obtain rfl : 0 = n := hn
    refine (Tryz.slices_BinarySearch_int_empty A c x w).mono ?_
    rintro e w' ⟨rfl, rfl⟩
    exact ⟨⟨0, rfl⟩, Below.refl _ _⟩
  | cons a r =>
    obtain ⟨b, off, rfl, hc⟩ := rd (by simp)
    refine (Tryz.slices_BinarySearch_int b off n c ((a :: r).map fun (a : Nat) => (a : Int)) x w (by simp at hn ⊢; omega) (by omega) (fun j hj => ?_) ?_).mono ?_
    · rw [List.length_map] at hj
      have hx := List.getElem?_eq_getElem hj
      have := hc j 0 (encN (a :: r)[j]) (.int .i64 ((a :: r)[j] : Nat)) (by rw [List.getElem?_map, hx]; rfl) rfl
      rw [List.getD_eq_getElem?_getD, List.getElem?_map, hx]
      simpa using this
    · refine List.Pairwise.sublist (List.take_sublist _ _) ?_
      rw [List.pairwise_map]
      exact hr.imp fun h => by omega
    · rintro e w' ⟨rfl, q, rfl⟩
      rw [List.take_of_length_le (by rw [List.length_map]; omega)]
      exact ⟨⟨_, rfl⟩, below_refl_drewN w q⟩
set_option maxRecDepth 100000 in
set_option maxHeartbeats 2000000 in
theorem gIs_any (s : ByteArray) (x : Int) (w : World) (hE : Env w) (hs : s.size ≤ 1000000) :
    Calls Tryz.prog 31 #[.string s, .int .i64 x] w fun e w' => e = .returned (.bool (isG s x)) ∧ Below w.heap.size w w' := by
  have HB := Lib.hid (gBounds_any s w hE hs)
  have HL := Lib.hid (bounds_len s)
  clear hE
  go_enter Tryz.func31, Tryz.ntmps31
  go_wp2_with fail
  refine HB.out.mono ?_
  rintro e w1 ⟨A, n, c, rfl, ho, hb1⟩
  have hn : (boundsG gG s).length = n := by have := ho.len; simpa using this
  have HS := Lib.hid (search_own x ho (bounds_rise gG s) (by have := HL.out; omega))
  clear hn ho
  obtain ⟨v, HV⟩ : ∃ v, Hid (isG s x = v) := ⟨_, Lib.hid rfl⟩
  have HV2 := HV.out
  unfold isG at HV2
  rw [HV2] at HS
  clear HV2
  go_wp2_with fail
  refine HS.out.mono ?_
  rintro e w2 ⟨⟨k, rfl⟩, hb2⟩
  go_wp2
  go_ret
  exact ⟨by rw [HV.out]; rfl, below_two hb1 hb2⟩
set_option maxRecDepth 100000 in
set_option maxHeartbeats 2000000 in
theorem gNext_any (s : ByteArray) (x : Int) (w : World) (hE : Env w) (hs : s.size ≤ 1000000) :
    Calls Tryz.prog 32 #[.string s, .int .i64 x] w fun e w' => e = .returned (.int .i64 (nextG s x : Nat)) ∧ Below w.heap.size w w' := by
  have HB := Lib.hid (gBounds_any s w hE hs)
  have HL := Lib.hid (bounds_len s)
  clear hE
  go_enter Tryz.func32, Tryz.ntmps32
  go_wp2_with fail
  refine HB.out.mono ?_
  rintro e w1 ⟨A, n, c, rfl, ho, hb1⟩
  have hn : (boundsG gG s).length = n := by have := ho.len; simpa using this
  have Hn := Lib.hid hn
  have hz : n ≤ 1000001 := by have := HL.out; omega
  have rd := ho.rd (by decide)
  clear hn ho
  go_wp2_with fail
  go_loopw [10] (fun v wr => ∃ i : Nat, v = .int .i64 i ∧ i ≤ n ∧ wr = w1 ∧ Hid (nextG s x = (((boundsG gG s).drop i).find? fun (a : Nat) => decide (x < (a : Int))).getD s.size)) (fun v _ => n - (intOf v).toNat)
  case atStart => exact ⟨0, rfl, by omega, rfl, Lib.hid rfl⟩
  case round =>
    obtain ⟨i, rfl, hi, rfl, HN⟩ := hrel
    by_cases hlt : i < n
    · obtain ⟨y, Hy⟩ : ∃ y, Hid ((boundsG gG s)[i]? = some y) := ⟨_, Lib.hid (List.getElem?_eq_getElem (by have := Hn.out; omega))⟩
      obtain ⟨b, off, rfl, cy⟩ := rd.atP' Hy.out
      have hdr : (boundsG gG s).drop i = y :: (boundsG gG s).drop (i + 1) := by rw [List.drop_eq_getElem_cons (by have := Hn.out; omega)]; rw [(List.getElem?_eq_some_iff.1 Hy.out).2]
      have HN2 := HN.out
      rw [hdr, List.find?_cons] at HN2
      clear hdr HN
      cases hq : decide (x < (y : Int)) with
      | true =>
        rw [hq] at HN2
        have HN3 : Hid (nextG s x = y) := Lib.hid HN2
        have hq2 : ((y : Int) > x) = True := eq_true (of_decide_eq_true hq)
        clear HN2
        go_wp2
        go_ret
        exact ⟨by rw [HN3.out]; rfl, hb1⟩
      | false =>
        rw [hq] at HN2
        have HN3 := Lib.hid HN2
        clear HN2
        go_wp2
        go_roundw
        case rel => exact ⟨i + 1, by go_num, by omega, by first | rfl | trivial, HN3⟩
        case measure => simp [intOf]; omega
    · obtain rfl : i = n := by omega
      have HN2 : Hid (nextG s x = s.size) := Lib.hid (by rw [HN.out, List.drop_eq_nil_of_le (by have := Hn.out; omega)]; rfl)
      go_wp2
      go_ret
      exact ⟨by rw [HN2.out]; rfl, hb1⟩
set_option maxRecDepth 100000 in
set_option maxHeartbeats 2000000 in
theorem gPlace_any (s : ByteArray) (x : Int) (w : World) (hE : Env w) (hs : s.size ≤ 1000000) :
    Calls Tryz.prog 26 #[.string s, .int .i64 x] w fun e w' => e = .returned (.int .i64 (placeG s x : Nat)) ∧ Below w.heap.size w w' := by
  by_cases h0 : x < 0
  · have HV : Hid (placeG s x = 0) := Lib.hid (by unfold placeG; rw [if_pos h0])
    clear hE
    go_enter Tryz.func26, Tryz.ntmps26
    go_wp2
    go_ret
    exact ⟨by rw [HV.out]; rfl, Below.refl _ _⟩
  · have HB := Lib.hid (gBounds_any s w hE hs)
    have HL := Lib.hid (bounds_len s)
    obtain ⟨k, rfl⟩ : ∃ k : Nat, x = k := ⟨x.toNat, by omega⟩
    have HV : Hid (placeG s k = (boundsG gG s).getD k s.size) := Lib.hid (by unfold placeG; rw [if_neg h0]; rfl)
    clear hE h0
    go_enter Tryz.func26, Tryz.ntmps26
    go_wp2_with fail
    refine HB.out.mono ?_
    rintro e w1 ⟨A, n, c, rfl, ho, hb1⟩
    have hn : (boundsG gG s).length = n := by have := ho.len; simpa using this
    have Hn := Lib.hid hn
    have hz : n ≤ 1000001 := by have := HL.out; omega
    have rd := ho.rd (by decide)
    clear hn ho
    by_cases hlt : k < n
    · obtain ⟨y, Hy⟩ : ∃ y, Hid ((boundsG gG s)[k]? = some y) := ⟨_, Lib.hid (List.getElem?_eq_getElem (by have := Hn.out; omega))⟩
      obtain ⟨b, off, rfl, cy⟩ := rd.atP' Hy.out
      have HV2 : Hid (placeG s k = y) := Lib.hid (by rw [HV.out, List.getD_eq_getElem?_getD, Hy.out]; rfl)
      go_wp2
      go_ret
      exact ⟨by rw [HV2.out]; rfl, hb1⟩
    · have HV2 : Hid (placeG s k = s.size) := Lib.hid (by rw [HV.out, List.getD_eq_getElem?_getD, List.getElem?_eq_none (by have := Hn.out; omega)]; rfl)
      go_wp2
      go_ret
      exact ⟨by rw [HV2.out]; rfl, hb1⟩
set_option maxRecDepth 100000 in
set_option maxHeartbeats 2000000 in
theorem gCut_any (s : ByteArray) (x : Int) (w : World) (hE : Env w) (hs : s.size ≤ 1000000) :
    Calls Tryz.prog 22 #[.string s, .int .i64 x] w fun e w' => e = .returned (.tuple #[.string (s.extract 0 (placeG s x)), .string (s.extract (placeG s x) s.size)]) ∧ Below w.heap.size w w' := by
  have HP := Lib.hid (gPlace_any s x w hE hs)
  have hle := placeG_le s x
  clear hE
  obtain ⟨z, Hz⟩ : ∃ z, placeG s x = z := ⟨_, rfl⟩
  rw [Hz] at HP hle ⊢
  clear Hz
  have h1 : (0 : Int) ≤ (z : Int) := by omega
  have h2 : (z : Int) ≤ (s.size : Int) := by omega
  go_enter Tryz.func22, Tryz.ntmps22
  go_wp2_with fail
  refine HP.out.mono ?_
  rintro e w1 ⟨rfl, hb1⟩
  go_wp2_with fail
  go_region
  go_wp2
  go_ret2
  exact ⟨rfl, hb1.drew⟩
end Go.Proofs.YtdnkignhenkamaaGreatDoor

/- -/
namespace Go.Proofs.YtdnkignhenkamaaGreatDoor
open Go.RowKit Go.Shelf
attribute [local go_sem] Oper.semAt_some
def encP2 (x : Nat × Nat) : Array Value := #[.int .i64 (x.1 : Nat), .int .i64 (x.2 : Nat)]
set_option maxRecDepth 100000 in
theorem gBack_any (s : ByteArray) (w : World) : Calls Tryz.prog 21 #[.string s] w fun e w' => ∃ bs, e = .returned (.func (.func 67) #[] #[.pointer (some ⟨bs, 0, none⟩)]) ∧ w'.cell? ⟨bs, 0, none⟩ = some (.string s) ∧ Below w.heap.size w w' := by
  have hmf : ∀ (fn : Fn) (first cap : Array Value) (w : World), (Instr.makeFunc fn first cap).run Tryz.prog w = .ok (.func fn first cap) w := fun _ _ _ _ => rfl
  go_enter Tryz.func21, Tryz.ntmps21
  go_wp2
  go_ret
  exact ⟨_, rfl, (Blk.new w 9 #[.string s]).cell 0, (Below.refl _ _).alloc (Nat.le_refl _) _⟩
def encCl (s : ByteArray) (x : Nat × Nat) : Array Value := encP2 (clP s x)
def gatP (s : ByteArray) (pre : List (Nat × Nat)) : List UInt8 := pre.flatMap fun x => (s.extract (clP s x).1 (clP s x).2).data.toList
theorem gatP_snoc (s : ByteArray) (pre : List (Nat × Nat)) (x : Nat × Nat) : gatP s (pre ++ [x]) = gatP s pre ++ (s.extract (clP s x).1 (clP s x).2).data.toList := by
  unfold gatP; rw [List.flatMap_append]; simp
theorem gatP_len (s : ByteArray) : ∀ (pre : List (Nat × Nat)), (gatP s pre).length ≤ pre.length * s.size
  | [] => by simp [gatP]
  | x :: r => by
    have ih := gatP_len s r
    have hb := clP_le s x
    unfold gatP at ih ⊢
    rw [List.flatMap_cons, List.length_append, extract_len s hb.2, List.length_cons, Nat.add_mul]
    omega
theorem gatP_turn {s : ByteArray} {L : List Nat} (h1 : L.Pairwise (· < ·)) (h2 : ∀ a ∈ L, a ≤ s.size) : gatP s (piecesB L) = turnL s L := by
  rw [turn_pieces]
  have key : ∀ (l : List (Nat × Nat)), (∀ x ∈ l, x ∈ piecesB L) → gatP s l = l.flatMap fun x => (s.extract x.1 x.2).data.toList := by
    intro l
    induction l with
    | nil => intro _; rfl
    | cons x r ih =>
      intro h
      have ih := ih (fun y hy => h y (List.mem_cons_of_mem _ hy))
      unfold gatP at ih ⊢
      rw [List.flatMap_cons, List.flatMap_cons, ih, clP_in (piecesB_le h1 h2 x (h x List.mem_cons_self))]
  exact key _ (fun _ h => h)
def encB8 (b : UInt8) : List Value := [.int .u8 b.toNat]
theorem flat8 (l : List UInt8) : (l.map encB8).flatten = Lib.byteCells l := by
  induction l with
  | nil => rfl
  | cons b r ih => rw [List.map_cons, List.flatten_cons, ih]; rfl
theorem own_of_B {w : World} {B : Nat} {v : Value} {l : List UInt8} (h : OwnB w B v l) : ∃ A n c, v = .slice A n c ∧ n = l.length ∧ Own w B 5 1 A n c (l.map encB8) := by
  rcases h.2 with ⟨rfl, h0⟩ | ⟨g, cap, cur, rfl, _⟩
  · exact ⟨_, _, _, rfl, by omega, by simpa using h0, fun x hx => by obtain ⟨y, _, rfl⟩ := List.mem_map.1 hx; rfl, by rw [flat8]; unfold OwnB at h; rw [h0] at h; exact h⟩
  · exact ⟨_, _, _, rfl, rfl, by simp, fun x hx => by obtain ⟨y, _, rfl⟩ := List.mem_map.1 hx; rfl, by rw [flat8]; exact h⟩
theorem B_of_own {w : World} {B : Nat} {A : Option Addr} {n c : Nat} {l : List UInt8} (h : Own w B 5 1 A n c (l.map encB8)) : n = l.length ∧ OwnB w B (.slice A n c) l := by
  have h1 : n = l.length := by have := h.len; simpa using this.symm
  have h2 := h.2.2
  rw [flat8] at h2
  refine ⟨h1, ?_⟩
  unfold OwnB
  rw [← h1]
  exact h2
set_option maxRecDepth 100000 in
set_option maxHeartbeats 4000000 in
theorem gBack_seq (n : Nat) (hn : 1 ≤ n) (w : World) (s : ByteArray) (bs : Nat) (X : Nat → Prop) (hX : ∀ b, X b → b < w.heap.size) (hE : Env w) (hs : s.size ≤ 1000000) (h : w.cell? ⟨bs, 0, none⟩ = some (.string s)) :
    SeqStopsK Fence.wide n Tryz.prog 67 #[.pointer (some ⟨bs, 0, none⟩)] (encCl s) (KT 3 X) (fun ys => ys = piecesB (boundsG gG s)) (fun pre => pre <+: piecesB (boundsG gG s)) (piecesB (boundsG gG s)).length w := by
  intro l J Jx W hW hJ _ hY h0
  have hc1 : W.cell? ⟨bs, 0, none⟩ = some (.string s) := cell_keep h hW
  have hWz := hW.size
  have HB := Lib.hid (gBounds_any s W (hE.below hW) hs)
  have HL := Lib.hid (bounds_len s)
  have HP := Lib.hid (piecesB_le (bounds_rise gG s) (bounds_le gG s))
  clear hE h
  refine callsIn_of_wp Tryz.func67 rfl trivial ?_ rfl
  simp only [Tryz.ntmps67, List.size_toArray, List.length_cons, List.length_nil, Nat.reduceAdd, Nat.reduceSub, Array.replicate_succ, Array.replicate_zero, List.push_toArray, List.append_toArray, List.nil_append, List.cons_append]
  refine wpIn_wide.2 ?_
  go_wp2_with fail
  refine HB.out.mono ?_
  rintro e w1 ⟨A, m, c, rfl, ho, hb1⟩
  have hJ1 : J [] w1 := abides_below hJ h0 hb1
  have hm : (boundsG gG s).length = m := by have := ho.len; simpa using this
  have hz : m ≤ 1000001 := by have := HL.out; omega
  have Hm := Lib.hid hm
  clear hm
  go_wp2_with fail
  refine (wpIn_wide (n := n)).1 ?_
  gi_loopw [4] (fun v wr => ∃ i : Nat, v = .int .i64 ((i : Int) - 1) ∧ i ≤ m ∧ J ((piecesB (boundsG gG s)).take (m - i)) wr ∧ Own wr W.heap.size 3 1 A m c ((boundsG gG s).map encN)) (fun v _ => (intOf v).toNat)
  case atStart => exact ⟨m, rfl, Nat.le_refl _, by rw [Nat.sub_self]; exact hJ1, ho⟩
  case round =>
    obtain ⟨i, rfl, hi, hJr, hor⟩ := hrel
    by_cases hlt : 1 < i
    · obtain ⟨j, hj⟩ : ∃ j, i = j + 1 := ⟨i - 1, by omega⟩
      obtain ⟨k, hk⟩ : ∃ k, j = k + 1 := ⟨j - 1, by omega⟩
      have rd := hor.rd (by decide)
      obtain ⟨x, Hx⟩ : ∃ x, Hid ((boundsG gG s)[k]? = some x) := ⟨_, Lib.hid (List.getElem?_eq_getElem (by have := Hm.out; omega))⟩
      obtain ⟨y, Hy⟩ : ∃ y, Hid ((boundsG gG s)[k + 1]? = some y) := ⟨_, Lib.hid (List.getElem?_eq_getElem (by have := Hm.out; omega))⟩
      obtain ⟨b, off, rfl, cx⟩ := Rd.atQ rd Hx.out
      obtain ⟨b', off', e2, cy⟩ := Rd.atQ rd Hy.out
      injection e2 with e2
      injection e2 with e2 e3
      subst e2 e3
      have hat := piecesB_at _ k x y Hx.out Hy.out
      have hcl : clP s (x, y) = (x, y) := clP_in (HP.out _ (List.mem_of_getElem? hat))
      have hp : (piecesB (boundsG gG s)).take (m - i) ++ [(x, y)] = (piecesB (boundsG gG s)).take (m - j) := by
        rw [show m - j = m - i + 1 by omega, List.take_add_one]
        rw [Hm.out, show m - 2 - k = m - i by omega] at hat
        rw [hat]; rfl
      have hlen : ((piecesB (boundsG gG s)).take (m - i)).length < (piecesB (boundsG gG s)).length := by
        rw [List.length_take, piecesB_len, Hm.out]; omega
      have e1 : (i : Int) - 1 = (j : Int) := by omega
      rw [e1]
      have e4 : (j : Int) - 1 = (k : Int) := by omega
      have e5 : IntKind.i64.wrap ((j : Int) - 1) = (k : Int) := by rw [e4]; exact IntWalk.i64_in _ (by omega)
      have e6 : IntKind.i64.wrap (k : Int) = (k : Int) := IntWalk.i64_in _ (by omega)
      have hk0 : (0 : Int) ≤ (k : Int) := by omega
      have hkm : (k : Int) < (m : Int) := by omega
      have hkN : k < m := by omega
      have hjN : j < m := by omega
      have hj0 : (0 : Int) ≤ (j : Int) := by omega
      have hj1 : (j : Int) < (m : Int) := by omega
      have hj2 : (j : Int) > 0 := by omega
      have cy : wr.cell? ⟨b, off + j, none⟩ = some (.int .i64 (y : Nat)) := by rw [hk]; exact cy
      have hYW := YieldAt.mono (R' := fun e W' => ∃ q : Bool, e = .returned (.bool q) ∧ (q = true → J ((piecesB (boundsG gG s)).take (m - j)) W' ∧ KT 3 X wr.drew W') ∧ (q = false → Jx ((piecesB (boundsG gG s)).take (m - j)) W')) (hY _ (x, y) wr.drew (abides_below hJ hJr (Below.refl _ _).drew) hlen) (by
        rw [hp]
        rintro e W' (⟨h1, h2, h3⟩ | ⟨h1, h2⟩)
        · exact ⟨true, h1, fun _ => ⟨h2, h3⟩, fun h => absurd h (by decide)⟩
        · exact ⟨false, h1, fun h => absurd h (by decide), fun _ => h2⟩)
      obtain ⟨fn, tmps, assign, body, hy, hR⟩ := hYW
      dsimp only [encCl] at hy
      rw [hcl] at hy
      dsimp only [encP2] at hy
      have Hj := Lib.hid hj
      have Hk := Lib.hid hk
      clear hat hcl hlen hj hk e1
      have hmx : Tryz.prog.follows .mixedOrders = true := by kernel_rfl
      gi_wp2_with fail
      gi_region_with_o (refine hR.mono ?_; rintro e W4 ⟨q, rfl, hqt, hqf⟩)
      all_goals
        cases q with
        | true =>
          obtain ⟨hJ4, hk4⟩ := hqt rfl
          gi_wp2_with fail
          go_roundw
          case rel => exact ⟨j, by first | rfl | (rw [e4]) | (have := Hk.out; go_num), by have := Hj.out; omega, hJ4, hk4.own hor (fun b hb => Nat.lt_of_lt_of_le (hX b hb) hWz)⟩
          case measure => simp [intOf]; omega
        | false =>
          have hJ4 := hqf rfl
          gi_wp2
          refine bodyPost_ret (results_none rfl _ _ _) rfl ?_
          exact ⟨⟨_, rfl⟩, .inr ⟨_, List.take_prefix _ _, hJ4⟩⟩
    · have hend : (piecesB (boundsG gG s)).take (m - i) = piecesB (boundsG gG s) := List.take_of_length_le (by rw [piecesB_len, Hm.out]; omega)
      rw [hend] at hJr
      have g0 : ¬ ((i : Int) - 1 > 0) := by omega
      gi_wp2
      go_end0
      first | exact ⟨⟨_, rfl⟩, .inl hJr⟩ | exact ⟨⟨_, rfl⟩, .inl ⟨_, rfl, hJr⟩⟩
set_option maxRecDepth 100000 in
set_option maxHeartbeats 4000000 in
theorem gTurn_any (s : ByteArray) (w : World) (hE : Env w) (hs : s.size ≤ 1000000) : Calls Tryz.prog 27 #[.string s] w fun e w' => e = .returned (.string (bytesOf (turnL s (boundsG gG s)))) ∧ Below w.heap.size w w' := by
  have HB : Below w.heap.size w ((w.alloc (.cells #[.string s] 9)).alloc (.cells #[.slice none 0 0] 75)) := ((Below.refl _ _).alloc (Nat.le_refl _) _).alloc (by simp) _
  have B0 : Blk ((w.alloc (.cells #[.string s] 9)).alloc (.cells #[.slice none 0 0] 75)) (w.heap.size + 1) 75 #[.slice none 0 0] := by
    have := Blk.new (w.alloc (.cells #[.string s] 9)) 75 #[.slice none 0 0]
    rw [World.size_alloc] at this
    exact this
  have B1 : Blk ((w.alloc (.cells #[.string s] 9)).alloc (.cells #[.slice none 0 0] 75)) w.heap.size 9 #[.string s] := (Blk.new w 9 #[.string s]).alloc _
  obtain ⟨i0, hi0, hz0, hz1, hz2⟩ := info_parts infoB8
  have hGT := gatP_turn (bounds_rise gG s) (bounds_le gG s)
  have hPL : (piecesB (boundsG gG s)).length ≤ 1000000 := by rw [piecesB_len]; have := bounds_len s; omega
  refine (callsIn_wide (n := 6)).1 ?_
  refine callsIn_of_wp_marks Tryz.func27 rfl trivial ?_ rfl
  simp only [Tryz.ntmps27, List.size_toArray, List.length_cons, List.length_nil, Nat.reduceAdd, Nat.reduceSub, Array.replicate_succ, Array.replicate_zero, List.push_toArray, List.append_toArray, List.nil_append, List.cons_append]
  refine wpIn_wide.2 ?_
  go_wp2_with fail
  generalize ((w.alloc (.cells #[.string s] 9)).alloc (.cells #[.slice none 0 0] 75)) = w0 at HB B0 B1 ⊢
  have c1 := B1.cell 0
  simp only [List.getElem?_toArray, List.getElem?_cons_zero] at c1
  go_wp2_with fail
  refine (gBack_any s w0).mono ?_
  rintro e w1 ⟨bs, rfl, hc, hb⟩
  have B01 := B0.below hb
  have B11 := B1.below hb
  have HB1 := below_two HB hb
  have hE1 := hE.below HB1
  have hzb : w.heap.size + 1 < w1.heap.size := B01.lt
  clear B0 B1 hb HB c1 hE
  go_wp2_with fail
  refine (wpIn_wide (n := 6)).1 ?_
  refine rngH rfl (by decide) (gf := 67) (lb := #[.pointer (some ⟨bs, 0, none⟩)]) rfl trivial (enters_of Tryz.func67 (by kernel_rfl) rfl)
    (gBack_seq 5 (by decide) w1 s bs (fun _ => False) (fun _ h => h.elim) hE1 hs hc) (fun h k => h.trans k) (fun W l o o' _ h hc _ => KT.put W l o o' h hc) (Below.refl _ _) (fun _ => rfl) (fun W => KT.refl _ _ W)
    (fun (pre : List (Nat × Nat)) W => Gat w1 (w.heap.size + 1) 75 5 ((gatP s pre).map encB8) W) (fun _ _ _ => False) (Gat.own (f := fun (pre : List (Nat × Nat)) => (gatP s pre).map encB8) (Nat.le_refl _)) (fun _ _ _ _ _ hs _ _ => hs)
    ⟨none, 0, 0, B01, Own.nil_ _ _ _ _, only_refl _ _⟩
    (fun T x => ((((T.setIfInBounds 8 (.int .i64 ((clP s x).1 : Nat))).setIfInBounds 9 (.int .i64 ((clP s x).2 : Nat))).setIfInBounds 4 (.int .i64 ((clP s x).1 : Nat))).setIfInBounds 5 (.int .i64 ((clP s x).2 : Nat)))) ?assign ?body ?done ?stop
  case assign =>
    intro l2 x V K hK
    simp only [List.setIfInBounds_toArray, List.set_cons_succ, List.set_cons_zero] at hK
    simp only [encCl, encP2]
    gi_wp2
    exact hK
  case stop =>
    rintro D cc pre W _ hp h _
    exact absurd h id
  case body =>
    rintro l2 pre x W hl2 _ ⟨A9, n9, c9, BaW, oW, hgW⟩ hlen
    have hcx := clP_le s x
    have hgs := gatP_snoc s pre x
    obtain ⟨⟨a, b⟩, hab⟩ : ∃ z, clP s x = z := ⟨_, rfl⟩
    rw [hab] at hcx hgs ⊢
    simp only at hcx hgs ⊢
    simp only [List.setIfInBounds_toArray, List.set_cons_succ, List.set_cons_zero]
    have hA9 := oW.lt
    obtain ⟨hn9, hob⟩ := B_of_own oW
    subst hn9
    have hbl : (gatP s pre).length ≤ 1000000 * 1000000 := Nat.le_trans (gatP_len s pre) (Nat.mul_le_mul (by omega) hs)
    have hzW := hgW.size
    have cS : W.cell? ⟨w.heap.size, 0, none⟩ = some (.string s) := by
      have h1 : Blk W w.heap.size 9 #[.string s] := (hgW.block _ (by omega) (fun e => by injection e with e; omega)).trans B11
      exact h1.cell 0
    have c10 := BaW.cell 0
    simp only [List.getElem?_toArray, List.getElem?_cons_zero] at c10
    have hes := extract_len s (a := a) hcx.2
    have hes2 : (s.extract a b).size = b - a := by rw [ByteArray.size_extract]; omega
    have ha0 : (0 : Int) ≤ (a : Int) := by omega
    have ha1 : (a : Int) ≤ (b : Int) := by omega
    have ha2 : (b : Int) ≤ (s.size : Int) := by omega
    gi_wp2_with fail
    refine wpIn_region_round (S := fun V => V.cell? ⟨w.heap.size, 0, none⟩ = some (.string s)) (by kernel_rfl) (by kernel_rfl) (fun h => by obtain ⟨_, _, h⟩ := h; exact h) cS (fun hHeld => ?_)
    refine wpAnyH_take (i := 1) (v := ?_) rfl (by kernel_rfl) (by kernel_rfl) (by kernel_rfl) (fun _ _ _ h => h) (Or.inl ⟨by rfl, ?_⟩) (by assumption) ?_; rotate_left; focus ((intro w hSw; (try dsimp only at hSw); go_simp); try with_reducible rfl)
    (try simp only [Act.put, List.getElem_toArray, List.getElem_cons_succ, List.getElem_cons_zero, List.setIfInBounds_toArray, List.set_cons_zero, List.set_cons_succ])
    refine wpAnyH_take (i := 2) (v := ?_) rfl (by kernel_rfl) (by kernel_rfl) (by kernel_rfl) (fun _ _ _ h => h) (Or.inl ⟨by rfl, ?_⟩) (by assumption) ?_; rotate_left; focus ((intro w hSw; (try dsimp only at hSw); go_simp); try with_reducible rfl)
    (try simp only [Act.put, List.getElem_toArray, List.getElem_cons_succ, List.getElem_cons_zero, List.setIfInBounds_toArray, List.set_cons_zero, List.set_cons_succ])
    refine wpAnyH_take (i := 3) (v := ?_) rfl (by kernel_rfl) (by kernel_rfl) (by kernel_rfl) (fun _ _ _ h => h) (Or.inl ⟨by rfl, ?_⟩) (by assumption) ?_; rotate_left; focus ((intro w hSw; (try dsimp only at hSw); go_simp); try with_reducible rfl)
    (try simp only [Act.put, List.getElem_toArray, List.getElem_cons_succ, List.getElem_cons_zero, List.setIfInBounds_toArray, List.set_cons_zero, List.set_cons_succ])
    refine wpAnyH_take (i := 4) (v := ?_) rfl (by kernel_rfl) (by kernel_rfl) (by kernel_rfl) (fun _ _ _ h => h) (Or.inl ⟨by rfl, ?_⟩) (by assumption) ?_; rotate_left; focus ((intro w hSw; (try dsimp only at hSw); go_simp); try with_reducible rfl)
    (try simp only [Act.put, List.getElem_toArray, List.getElem_cons_succ, List.getElem_cons_zero, List.setIfInBounds_toArray, List.set_cons_zero, List.set_cons_succ])
    refine wpAnyH_ready (rs := [0]) (by kernel_rfl) (by simp) ?_
    refine AllReadyH.cons rfl (fun K hK => ?_) AllReadyH.nil
    go_simp
    refine hK.out _ _ cS (fun hHeld => ?_)
    clear hK K
    (try simp only [Act.put, List.getElem_toArray, List.getElem_cons_succ, List.getElem_cons_zero, List.setIfInBounds_toArray, List.set_cons_zero, List.set_cons_succ])
    refine wpAnyH_ready (rs := [5]) (by kernel_rfl) (by simp) ?_
    refine AllReadyH.cons rfl (fun K hK => ?_) AllReadyH.nil
    refine step_appS rfl (.tmp 10) (.tmp 14) _ _ rfl w1.heap.size 5 i0 Tryz.underlying75 Tryz.underlying9 hi0 hz0 hz1 hz2 _ (gatP s pre).length (Lib.byteCells (gatP s pre)) rfl hob (s.extract a b) rfl (by unfold maxLen; omega) (by omega) (by simp; omega) ?_
    intro v3 w3 ho3 hg3
    have ho4 := OwnB.str ho3 rfl
    rw [← hgs] at ho4
    obtain ⟨A3, n3, c3, rfl, hn3, ho5⟩ := own_of_B ho4
    clear hn3 hes2 hes
    have hg4 : W.drew.grownBy w3 (Value.slice A9 (gatP s pre).length c9).ownBlock := hg3
    have cS3 := cell_grownS (w := W.drew) cS hob hg4 (by omega)
    have B3 : Blk w3 (w.heap.size + 1) 75 #[.slice A9 (gatP s pre).length c9] := (hg4.block _ (by show _ < W.heap.size; omega) (fun e => by have := hob.lt _ e.symm; omega)).trans BaW
    have f3 := B3.frozen 0
    have c3b := B3.cell 0
    simp only [List.getElem?_toArray, List.getElem?_cons_zero] at c3b
    refine hK.out _ _ cS3 (fun hHeld => ?_)
    clear hK K
    (try simp only [Act.put, List.getElem_toArray, List.getElem_cons_succ, List.getElem_cons_zero, List.setIfInBounds_toArray, List.set_cons_zero, List.set_cons_succ])
    refine wpAnyH_ready (rs := [6]) (by kernel_rfl) (by simp) ?_
    refine AllReadyH.cons rfl (fun K hK => ?_) AllReadyH.nil
    go_simp
    refine hK.out _ _ (by show World.cell? _ _ = _; first | exact cell_set_ne cS3 | (simp [World.cell?_setCell_far, cS3])) (fun hHeld => ?_)
    clear hK K
    (try simp only [Act.put, List.getElem_toArray, List.getElem_cons_succ, List.getElem_cons_zero, List.setIfInBounds_toArray, List.set_cons_zero, List.set_cons_succ])
    refine wpAnyH_done (by kernel_rfl) ?_ _
    have hV : W.grownBy w3 (A9.map (·.block)) := by
      cases A9 with
      | none => exact ⟨hg4.os, hg4.tape, hg4.output, hg4.size, hg4.block⟩
      | some q => exact ⟨hg4.os, hg4.tape, hg4.output, hg4.size, hg4.block⟩
    obtain ⟨k1, _, k3⟩ := Gat.step hzb BaW oW hgW hV ho5
    exact ⟨k1, Gat.stepT (by decide) (by decide) BaW oW hV _, k3⟩
  case done =>
    rintro D ys V hD hys ⟨A, n, c, B, ho, hg⟩ hK
    have c10 := B.cell 0
    simp only [List.getElem?_toArray, List.getElem?_cons_zero] at c10
    subst hys
    rw [hGT] at ho
    obtain ⟨hn, hob⟩ := B_of_own ho
    subst hn
    have hcv := hob.convert
    go_wp2
    refine ⟨by simp, .inl ⟨_, _, rfl, run_takeDeferred hK, ?_⟩⟩
    refine ⟨_, results_tmp rfl _ _ _, rfl, ?_⟩
    exact (HB1.trans (below_only (B := w.heap.size) hg (by omega) (by omega))).trans (belowK_b (w := w) (Nat.le_refl _) _ D _ _ (by omega) hK rfl rfl)
end Go.Proofs.YtdnkignhenkamaaGreatDoor

/- -/
namespace Go.Proofs.YtdnkignhenkamaaGreatDoor
open Go.RowKit
set_option maxRecDepth 100000 in
set_option maxHeartbeats 2000000 in
theorem zPlaces_same (A B : Option Addr) (n c e : Nat) (l : List Nat) (w : World) (hA : Rd w 1 A (l.map encN)) (hB : Rd w 1 B (l.map encN)) (hl : l.length = n) (hn : n ≤ 4000000) :
    Calls Tryz.prog 16 #[.slice A n c, .slice B n e] w fun e w' => e = .returned (.bool true) ∧ Below w.heap.size w w' := by
  have Hl := Lib.hid hl
  clear hl
  go_enter Tryz.func16, Tryz.ntmps16
  go_wp2
  go_loopw [5] (fun v wr => ∃ i k : Nat, v = .int .i64 i ∧ i ≤ n ∧ wr = w.drewN k) (fun v _ => n - (intOf v).toNat)
  case atStart => exact ⟨0, 0, rfl, by omega, rfl⟩
  case round =>
    obtain ⟨i, k, rfl, hi, rfl⟩ := hrel
    by_cases hlt : i < n
    · obtain ⟨x, Hx⟩ : ∃ x, Hid (l[i]? = some x) := ⟨_, Lib.hid (List.getElem?_eq_getElem (by have := Hl.out; omega))⟩
      obtain ⟨b, off, rfl, h1⟩ := hA.atP' Hx.out
      obtain ⟨b', off', rfl, k1⟩ := hB.atP' Hx.out
      go_wp2_with fail
      go_region
      go_wp2
      go_roundw
      case rel => exact ⟨i + 1, _, by go_num, by omega, by first | rfl | exact World.drewN_drewN _ _ _⟩
      case measure => simp [intOf]; omega
    · go_wp2
      go_ret
      exact ⟨rfl, below_refl_drewN w k⟩
end Go.Proofs.YtdnkignhenkamaaGreatDoor

/- -/
namespace Go.Proofs.YtdnkignhenkamaaGreatDoor
open Go.RowKit Go.Shelf
attribute [local go_sem] Oper.semAt_some
def belowL (L : List Nat) (x : Int) : Nat := L.foldl (fun (b a : Nat) => if (a : Int) < x then a else b) 0
def aboveL (L : List Nat) (x : Int) (e : Nat) : Nat := (L.find? fun (a : Nat) => decide (x < (a : Int))).getD e
def arT (x : Int) (p : Nat × Nat) : Bool := decide ((p.1 : Int) ≤ x) && decide (x < (p.2 : Int))
def aroundL (L : List Nat) (x : Int) : Nat × Nat := ((piecesF L).find? (arT x)).getD (0, 0)
theorem belowL_step {L : List Nat} {x : Int} {i y : Nat} (h : L[i]? = some y) : belowL (L.take (i + 1)) x = if (y : Int) < x then y else belowL (L.take i) x := by
  unfold belowL
  rw [List.take_add_one, h, Option.toList_some, List.foldl_append, List.foldl_cons, List.foldl_nil]
set_option maxRecDepth 100000 in
set_option maxHeartbeats 2000000 in
theorem bAbove_any (A : Option Addr) (n c : Nat) (L : List Nat) (x : Int) (e : Nat) (w : World) (hA : Rd w 1 A (L.map encN)) (hl : L.length = n) (hn : n ≤ 4000000) :
    Calls Tryz.prog 33 #[.slice A n c, .int .i64 x, .int .i64 (e : Nat)] w fun e' w' => e' = .returned (.int .i64 (aboveL L x e : Nat)) ∧ w = w' := by
  have Hn := Lib.hid hl
  clear hl
  go_enter Tryz.func33, Tryz.ntmps33
  go_wp2_with fail
  go_loopw [7] (fun v wr => ∃ i : Nat, v = .int .i64 i ∧ i ≤ n ∧ wr = w ∧ Hid (aboveL L x e = ((L.drop i).find? fun (a : Nat) => decide (x < (a : Int))).getD e)) (fun v _ => n - (intOf v).toNat)
  case atStart => exact ⟨0, rfl, by omega, rfl, Lib.hid rfl⟩
  case round =>
    obtain ⟨i, rfl, hi, rfl, HN⟩ := hrel
    by_cases hlt : i < n
    · obtain ⟨y, Hy⟩ : ∃ y, Hid (L[i]? = some y) := ⟨_, Lib.hid (List.getElem?_eq_getElem (by have := Hn.out; omega))⟩
      obtain ⟨b, off, rfl, cy⟩ := hA.atP' Hy.out
      have hdr : L.drop i = y :: L.drop (i + 1) := by rw [List.drop_eq_getElem_cons (by have := Hn.out; omega)]; rw [(List.getElem?_eq_some_iff.1 Hy.out).2]
      have HN2 := HN.out
      rw [hdr, List.find?_cons] at HN2
      clear hdr HN
      cases hq : decide (x < (y : Int)) with
      | true =>
        rw [hq] at HN2
        have HN3 : Hid (aboveL L x e = y) := Lib.hid HN2
        have hq2 : ((y : Int) > x) = True := eq_true (of_decide_eq_true hq)
        clear HN2
        go_wp2
        go_ret
        exact ⟨by rw [HN3.out]; rfl, rfl⟩
      | false =>
        rw [hq] at HN2
        have HN3 := Lib.hid HN2
        clear HN2
        go_wp2
        go_roundw
        case rel => exact ⟨i + 1, by go_num, by omega, by first | rfl | trivial, HN3⟩
        case measure => simp [intOf]; omega
    · obtain rfl : i = n := by omega
      have HN2 : Hid (aboveL L x e = e) := Lib.hid (by rw [HN.out, List.drop_eq_nil_of_le (by have := Hn.out; omega)]; rfl)
      go_wp2
      go_ret
      exact ⟨by rw [HN2.out]; rfl, rfl⟩
set_option maxRecDepth 100000 in
set_option maxHeartbeats 2000000 in
theorem bBelow_any (A : Option Addr) (n c : Nat) (L : List Nat) (x : Int) (w : World) (hA : Rd w 1 A (L.map encN)) (hl : L.length = n) (hn : n ≤ 4000000) :
    Calls Tryz.prog 35 #[.slice A n c, .int .i64 x] w fun e' w' => e' = .returned (.int .i64 (belowL L x : Nat)) ∧ w = w' := by
  have Hn := Lib.hid hl
  clear hl
  go_enter Tryz.func35, Tryz.ntmps35
  go_wp2_with fail
  go_loopw [5, 6] (fun u v wr => ∃ i k : Nat, v = .int .i64 i ∧ u = .int .i64 k ∧ i ≤ n ∧ wr = w ∧ Hid (belowL (L.take i) x = k)) (fun _ v _ => n - (intOf v).toNat)
  case atStart => exact ⟨0, 0, rfl, rfl, by omega, rfl, Lib.hid rfl⟩
  case round =>
    obtain ⟨i, k, rfl, rfl, hi, rfl, HN⟩ := hrel
    by_cases hlt : i < n
    · obtain ⟨y, Hy⟩ : ∃ y, Hid (L[i]? = some y) := ⟨_, Lib.hid (List.getElem?_eq_getElem (by have := Hn.out; omega))⟩
      obtain ⟨b, off, rfl, cy⟩ := hA.atP' Hy.out
      have HN2 := belowL_step (x := x) Hy.out
      by_cases hq : (y : Int) < x
      · rw [if_pos hq] at HN2
        have HN3 := Lib.hid HN2
        clear HN2
        go_wp2
        go_roundw
        case rel => exact ⟨i + 1, y, by go_num, rfl, by omega, by first | rfl | trivial, HN3⟩
        case measure => simp [intOf]; omega
      · rw [if_neg hq, HN.out] at HN2
        have HN3 := Lib.hid HN2
        clear HN2
        go_wp2
        go_roundw
        case rel => exact ⟨i + 1, k, by go_num, rfl, by omega, by first | rfl | trivial, HN3⟩
        case measure => simp [intOf]; omega
    · obtain rfl : i = n := by omega
      have HN2 : Hid (belowL L x = k) := Lib.hid (by rw [← HN.out, List.take_of_length_le (by have := Hn.out; omega)])
      go_wp2
      go_ret
      exact ⟨by rw [HN2.out]; rfl, rfl⟩
set_option maxRecDepth 100000 in
set_option maxHeartbeats 4000000 in
theorem bAround_any (A : Option Addr) (n c : Nat) (L : List Nat) (x : Int) (w : World) (hA : Rd w 1 A (L.map encN)) (hl : L.length = n) (hn : n ≤ 4000000) :
    Calls Tryz.prog 30 #[.slice A n c, .int .i64 x] w fun e' w' => e' = .returned (.tuple #[.int .i64 ((aroundL L x).1 : Nat), .int .i64 ((aroundL L x).2 : Nat)]) ∧ Below w.heap.size w w' := by
  have Hn := Lib.hid hl
  have HF := Lib.hid (fun i x y (h1 : L[i]? = some x) (h2 : L[i + 1]? = some y) => piecesF_at L i x y h1 h2)
  have HFl := Lib.hid (piecesF_len L)
  clear hl
  go_enter Tryz.func30, Tryz.ntmps30
  go_wp2_with fail
  go_loopw [6] (fun v wr => ∃ i : Nat, v = .int .i64 i ∧ (i = 0 ∨ i < n) ∧ wr = w ∧ Hid (aroundL L x = (((piecesF L).drop i).find? (arT x)).getD (0, 0))) (fun v _ => n - (intOf v).toNat)
  case atStart => exact ⟨0, rfl, .inl rfl, rfl, Lib.hid rfl⟩
  case round =>
    obtain ⟨i, rfl, hi, rfl, HN⟩ := hrel
    by_cases hlt : i + 1 < n
    · obtain ⟨y, Hy⟩ : ∃ y, Hid (L[i]? = some y) := ⟨_, Lib.hid (List.getElem?_eq_getElem (by have := Hn.out; omega))⟩
      obtain ⟨z, Hz⟩ : ∃ y, Hid (L[i + 1]? = some y) := ⟨_, Lib.hid (List.getElem?_eq_getElem (by have := Hn.out; omega))⟩
      obtain ⟨j, hj⟩ : ∃ j, i + 1 = j := ⟨_, rfl⟩
      obtain ⟨b, off, rfl, cy⟩ := hA.atP' Hy.out
      obtain ⟨b2, off2, e2, cz⟩ := hA.atP' Hz.out
      injection e2 with e2
      injection e2 with e3 e4 _
      subst e3 e4
      have hat := HF.out i y z Hy.out Hz.out
      have hdr : (piecesF L).drop i = (y, z) :: (piecesF L).drop (i + 1) := by
        obtain ⟨h1, h2⟩ := List.getElem?_eq_some_iff.1 hat
        rw [List.drop_eq_getElem_cons h1, h2]
      have HN2 := HN.out
      rw [hdr, List.find?_cons] at HN2
      rw [hj] at cz HN2 hlt
      have ej : (i : Int) + 1 = (j : Int) := by omega
      have HJ := Lib.hid hj
      clear hdr HN hat hj
      have hin : i < n := by omega
      have hq0 : arT x (y, z) = (decide ((y : Int) ≤ x) && decide (x < (z : Int))) := rfl
      cases hq : decide ((y : Int) ≤ x) with
      | true =>
        cases hr : decide (x < (z : Int)) with
        | true =>
          rw [hq0, hq, hr] at HN2
          have HN3 : Hid (aroundL L x = (y, z)) := Lib.hid HN2
          have hq2 := of_decide_eq_true hq
          have hr2 := of_decide_eq_true hr
          clear HN2 hq0
          go_wp2_with fail
          go_region
          go_wp2
          go_ret2
          exact ⟨by rw [HN3.out]; rfl, (Below.refl _ _).drew⟩
        | false =>
          rw [hq0, hq, hr] at HN2
          have HN3 := Lib.hid HN2
          have hq2 := of_decide_eq_true hq
          have hr2 : ¬ (x < (z : Int)) := of_decide_eq_false hr
          clear HN2 hq0
          go_wp2
          go_roundw
          case rel => exact ⟨j, by first | rfl | (go_num), .inr (by omega), by first | rfl | trivial, HN3⟩
          case measure => simp [intOf]; omega
      | false =>
        rw [hq0, hq] at HN2
        have HN3 := Lib.hid HN2
        have hq2 : ¬ ((y : Int) ≤ x) := of_decide_eq_false hq
        clear HN2 hq0
        go_wp2
        go_roundw
        case rel => exact ⟨j, by first | rfl | (go_num), .inr (by omega), by first | rfl | trivial, HN3⟩
        case measure => simp [intOf]; omega
    · have HN2 : Hid (aroundL L x = (0, 0)) := Lib.hid (by rw [HN.out, List.drop_eq_nil_of_le (by rw [HFl.out]; have := Hn.out; omega)]; rfl)
      go_wp2
      go_ret2
      exact ⟨by rw [HN2.out]; rfl, Below.refl _ _⟩
set_option maxRecDepth 100000 in
theorem gEach_any (s : ByteArray) (w : World) : Calls Tryz.prog 20 #[.string s] w fun e w' => ∃ bs, e = .returned (.func (.func 66) #[] #[.pointer (some ⟨bs, 0, none⟩)]) ∧ w'.cell? ⟨bs, 0, none⟩ = some (.string s) ∧ Below w.heap.size w w' := by
  have hmf : ∀ (fn : Fn) (first cap : Array Value) (w : World), (Instr.makeFunc fn first cap).run Tryz.prog w = .ok (.func fn first cap) w := fun _ _ _ _ => rfl
  go_enter Tryz.func20, Tryz.ntmps20
  go_wp2
  go_ret
  exact ⟨_, rfl, (Blk.new w 9 #[.string s]).cell 0, (Below.refl _ _).alloc (Nat.le_refl _) _⟩
set_option maxRecDepth 100000 in
set_option maxHeartbeats 4000000 in
theorem gEach_seq (n : Nat) (hn : 1 ≤ n) (w : World) (s : ByteArray) (bs : Nat) (X : Nat → Prop) (hX : ∀ b, X b → b < w.heap.size) (hE : Env w) (hs : s.size ≤ 1000000) (h : w.cell? ⟨bs, 0, none⟩ = some (.string s)) :
    SeqStopsK Fence.wide n Tryz.prog 66 #[.pointer (some ⟨bs, 0, none⟩)] (encCl s) (KT 3 X) (fun ys => ys = piecesF (boundsG gG s)) (fun pre => pre <+: piecesF (boundsG gG s)) (piecesF (boundsG gG s)).length w := by
  intro l J Jx W hW hJ _ hY h0
  have hc1 : W.cell? ⟨bs, 0, none⟩ = some (.string s) := cell_keep h hW
  have hWz := hW.size
  have HB := Lib.hid (gBounds_any s W (hE.below hW) hs)
  have HL := Lib.hid (bounds_len s)
  have HP := Lib.hid (piecesF_le (bounds_rise gG s) (bounds_le gG s))
  clear hE h
  refine callsIn_of_wp Tryz.func66 rfl trivial ?_ rfl
  simp only [Tryz.ntmps66, List.size_toArray, List.length_cons, List.length_nil, Nat.reduceAdd, Nat.reduceSub, Array.replicate_succ, Array.replicate_zero, List.push_toArray, List.append_toArray, List.nil_append, List.cons_append]
  refine wpIn_wide.2 ?_
  go_wp2_with fail
  refine HB.out.mono ?_
  rintro e w1 ⟨A, m, c, rfl, ho, hb1⟩
  have hJ1 : J [] w1 := abides_below hJ h0 hb1
  have hm : (boundsG gG s).length = m := by have := ho.len; simpa using this
  have hz : m ≤ 1000001 := by have := HL.out; omega
  have Hm := Lib.hid hm
  clear hm
  go_wp2_with fail
  refine (wpIn_wide (n := n)).1 ?_
  gi_loopw [4] (fun v wr => ∃ k j : Nat, v = .int .i64 (j : Int) ∧ Hid (j = k + 1) ∧ (k = 0 ∨ k + 1 ≤ m) ∧ J ((piecesF (boundsG gG s)).take k) wr ∧ Own wr W.heap.size 3 1 A m c ((boundsG gG s).map encN)) (fun v _ => m + 1 - (intOf v).toNat)
  case atStart => exact ⟨0, 1, rfl, Lib.hid rfl, .inl rfl, hJ1, ho⟩
  case round =>
    obtain ⟨k, j, rfl, HJ, hk, hJr, hor⟩ := hrel
    by_cases hlt : j < m
    · have hjm : k + 1 < m := by have := HJ.out; omega
      have rd := hor.rd (by decide)
      obtain ⟨x, Hx⟩ : ∃ x, Hid ((boundsG gG s)[k]? = some x) := ⟨_, Lib.hid (List.getElem?_eq_getElem (by have := Hm.out; omega))⟩
      obtain ⟨y, Hy⟩ : ∃ y, Hid ((boundsG gG s)[k + 1]? = some y) := ⟨_, Lib.hid (List.getElem?_eq_getElem (by have := Hm.out; omega))⟩
      obtain ⟨b, off, rfl, cx⟩ := Rd.atQ rd Hx.out
      obtain ⟨b', off', e2, cy⟩ := Rd.atQ rd Hy.out
      injection e2 with e2
      injection e2 with e2 e3
      subst e2 e3
      have hat := piecesF_at _ k x y Hx.out Hy.out
      have hcl : clP s (x, y) = (x, y) := clP_in (HP.out _ (List.mem_of_getElem? hat))
      have hp : (piecesF (boundsG gG s)).take k ++ [(x, y)] = (piecesF (boundsG gG s)).take (k + 1) := by
        rw [List.take_add_one, hat]; rfl
      have hlen : ((piecesF (boundsG gG s)).take k).length < (piecesF (boundsG gG s)).length := by
        rw [List.length_take, piecesF_len, Hm.out]; omega
      have e4 : (j : Int) - 1 = (k : Int) := by have := HJ.out; omega
      have e5 : IntKind.i64.wrap ((j : Int) - 1) = (k : Int) := by rw [e4]; exact IntWalk.i64_in _ (by omega)
      have e6 : IntKind.i64.wrap (k : Int) = (k : Int) := IntWalk.i64_in _ (by omega)
      have hk0 : (0 : Int) ≤ (k : Int) := by omega
      have hkm : (k : Int) < (m : Int) := by omega
      have hkN : k < m := by omega
      have hjN : j < m := by omega
      have hj0 : (0 : Int) ≤ (j : Int) := by omega
      have hj1 : (j : Int) < (m : Int) := by omega
      have cy : wr.cell? ⟨b, off + j, none⟩ = some (.int .i64 (y : Nat)) := by rw [HJ.out]; exact cy
      have hYW := YieldAt.mono (R' := fun e W' => ∃ q : Bool, e = .returned (.bool q) ∧ (q = true → J ((piecesF (boundsG gG s)).take (k + 1)) W' ∧ KT 3 X wr.drew W') ∧ (q = false → Jx ((piecesF (boundsG gG s)).take (k + 1)) W')) (hY _ (x, y) wr.drew (abides_below hJ hJr (Below.refl _ _).drew) hlen) (by
        rw [hp]
        rintro e W' (⟨h1, h2, h3⟩ | ⟨h1, h2⟩)
        · exact ⟨true, h1, fun _ => ⟨h2, h3⟩, fun h => absurd h (by decide)⟩
        · exact ⟨false, h1, fun h => absurd h (by decide), fun _ => h2⟩)
      obtain ⟨fn, tmps, assign, body, hy, hR⟩ := hYW
      dsimp only [encCl] at hy
      rw [hcl] at hy
      dsimp only [encP2] at hy
      clear hat hcl hlen hjm
      have hmx : Tryz.prog.follows .mixedOrders = true := by kernel_rfl
      gi_wp2_with fail
      gi_region_with_o (refine hR.mono ?_; rintro e W4 ⟨q, rfl, hqt, hqf⟩)
      all_goals
        cases q with
        | true =>
          obtain ⟨hJ4, hk4⟩ := hqt rfl
          gi_wp2_with fail
          go_roundw
          case rel => exact ⟨k + 1, j + 1, by go_num, Lib.hid (by rw [HJ.out]), .inr (by have := HJ.out; omega), hJ4, hk4.own hor (fun b hb => Nat.lt_of_lt_of_le (hX b hb) hWz)⟩
          case measure => simp [intOf]; omega
        | false =>
          have hJ4 := hqf rfl
          gi_wp2
          refine bodyPost_ret (results_none rfl _ _ _) rfl ?_
          exact ⟨⟨_, rfl⟩, .inr ⟨_, List.take_prefix _ _, hJ4⟩⟩
    · have hend : (piecesF (boundsG gG s)).take k = piecesF (boundsG gG s) := List.take_of_length_le (by have := HJ.out; rw [piecesF_len, Hm.out]; omega)
      rw [hend] at hJr
      gi_wp2
      go_end0
      first | exact ⟨⟨_, rfl⟩, .inl hJr⟩ | exact ⟨⟨_, rfl⟩, .inl ⟨_, rfl, hJr⟩⟩
set_option maxRecDepth 100000 in
set_option maxHeartbeats 2000000 in
theorem gPrev_any (s : ByteArray) (x : Int) (w : World) (hE : Env w) (hs : s.size ≤ 1000000) :
    Calls Tryz.prog 34 #[.string s, .int .i64 x] w fun e w' => e = .returned (.int .i64 (belowL (boundsG gG s) x : Nat)) ∧ Below w.heap.size w w' := by
  have HB := Lib.hid (gBounds_any s w hE hs)
  have hL := bounds_len s
  generalize boundsG gG s = L at HB hL ⊢
  clear hE
  go_enter Tryz.func34, Tryz.ntmps34
  go_wp2_with fail
  refine HB.out.mono ?_
  rintro e w1 ⟨A, n, c, rfl, ho, hb1⟩
  have hn : L.length = n := by have := ho.len; simpa using this
  have Hn := Lib.hid hn
  have hz : n ≤ 1000001 := by omega
  have rd := ho.rd (by decide)
  clear hn ho
  go_wp2_with fail
  go_loopw [5, 7, 11] (fun u _ v wr => ∃ i k : Nat, v = .int .i64 i ∧ u = .int .i64 k ∧ i ≤ n ∧ wr = w1 ∧ Hid (belowL (L.take i) x = k)) (fun _ _ v _ => n - (intOf v).toNat)
  case atStart => exact ⟨0, 0, rfl, rfl, by omega, rfl, Lib.hid rfl⟩
  case round =>
    obtain ⟨i, k, rfl, rfl, hi, rfl, HN⟩ := hrel
    by_cases hlt : i < n
    · obtain ⟨y, Hy⟩ : ∃ y, Hid (L[i]? = some y) := ⟨_, Lib.hid (List.getElem?_eq_getElem (by have := Hn.out; omega))⟩
      obtain ⟨b, off, rfl, cy⟩ := rd.atP' Hy.out
      have HN2 := belowL_step (x := x) Hy.out
      by_cases hq : (y : Int) < x
      · rw [if_pos hq] at HN2
        have HN3 := Lib.hid HN2
        clear HN2
        go_wp2
        go_roundw
        case rel => exact ⟨i + 1, y, by go_num, rfl, by omega, by first | rfl | trivial, HN3⟩
        case measure => simp [intOf]; omega
      · rw [if_neg hq, HN.out] at HN2
        have HN3 := Lib.hid HN2
        clear HN2
        go_wp2
        go_roundw
        case rel => exact ⟨i + 1, k, by go_num, rfl, by omega, by first | rfl | trivial, HN3⟩
        case measure => simp [intOf]; omega
    · obtain rfl : i = n := by omega
      have HN2 : Hid (belowL L x = k) := Lib.hid (by rw [← HN.out, List.take_of_length_le (by have := Hn.out; omega)])
      go_wp2
      go_ret
      exact ⟨by rw [HN2.out]; rfl, hb1⟩
end Go.Proofs.YtdnkignhenkamaaGreatDoor

/- -/
namespace Go.Proofs.YtdnkignhenkamaaGreatDoor
open Go.RowKit Go.Shelf
attribute [local go_sem] Oper.semAt_some
theorem res_around (w : World) (b4 b5 : Nat) (tmps : Array Value) (h4 : tmps.getD 4 undef = .pointer (some ⟨b4, 0, none⟩)) (h5 : tmps.getD 5 undef = .pointer (some ⟨b5, 0, none⟩)) {x y : Int}
    (c4 : w.cell? ⟨b4, 0, none⟩ = some (.int .i64 x)) (c5 : w.cell? ⟨b5, 0, none⟩ = some (.int .i64 y)) : (results Tryz.f29 tmps).run Tryz.prog w = .ok (.tuple #[.int .i64 x, .int .i64 y]) w := by
  have h4' : tmps[4]?.getD undef = .pointer (some ⟨b4, 0, none⟩) := by simpa [Array.getD_eq_getD_getElem?] using h4
  have h5' : tmps[5]?.getD undef = .pointer (some ⟨b5, 0, none⟩) := by simpa [Array.getD_eq_getD_getElem?] using h5
  simp [results, Tryz.results29, go_sem, h4', h5', c4, c5]
theorem blk_farG {V : World} {p : Addr} {u : Value} {k : Nat} {t : TypeId} {cs : Array Value} (h : Blk V k t cs) (hne : k ≠ p.block) : Blk (V.setCell p u) k t cs := (Below.heap_setCell V p u k hne).trans h
theorem blk_putG {V : World} {D : Nat} {o : Obj} {k : Nat} {t : TypeId} {cs : Array Value} (h : Blk V k t cs) (hne : k ≠ D) : Blk (V.putObj D o) k t cs := (World.putObj_heap_other hne).trans h
theorem find_prefixG {α : Type} {P : α → Bool} : ∀ {pre L : List α} {q : α}, pre ++ [q] <+: L → (∀ p ∈ pre, P p = false) → P q = true → L.find? P = some q
  | [], L, q, ⟨t, h⟩, _, hq => by rw [← h]; simp [hq]
  | a :: r, L, q, ⟨t, h⟩, hp, hq => by
    rw [← h, List.cons_append, List.cons_append, List.find?_cons, hp a (by simp)]
    exact find_prefixG ⟨t, rfl⟩ (fun p hp' => hp p (by simp [hp'])) hq
def NoA (s : ByteArray) (x : Int) (pre : List (Nat × Nat)) : Prop := ∀ p ∈ pre, arT x (clP s p) = false
def ArM (s : ByteArray) (x : Int) (w : World) (pre : List (Nat × Nat)) (W : World) : Prop :=
  ∃ (q : Nat × Nat) (pre0 : List (Nat × Nat)), pre = pre0 ++ [q] ∧ NoA s x pre0 ∧ arT x (clP s q) = true ∧ Blk W (w.heap.size + 1) 3 #[.int .i64 ((clP s q).1 : Nat)] ∧ Blk W (w.heap.size + 1 + 1) 3 #[.int .i64 ((clP s q).2 : Nat)] ∧ Below w.heap.size w W
theorem pieces_clG {s : ByteArray} {p : Nat × Nat} (h : p ∈ piecesF (boundsG gG s)) : clP s p = p := clP_in (piecesF_le (bounds_rise gG s) (bounds_le gG s) p h)
set_option maxRecDepth 100000 in
set_option maxHeartbeats 4000000 in
theorem gAround_any (s : ByteArray) (x : Int) (w : World) (hE : Env w) (hs : s.size ≤ 1000000) : Calls Tryz.prog 29 #[.string s, .int .i64 x] w fun e w' => e = .returned (.tuple #[.int .i64 ((aroundL (boundsG gG s) x).1 : Nat), .int .i64 ((aroundL (boundsG gG s) x).2 : Nat)]) ∧ Below w.heap.size w w' := by
  have hA1 : Below w.heap.size w (w.alloc (.cells #[.int .i64 x] 3)) := (Below.refl _ _).alloc (Nat.le_refl _) _
  have hA2 := hA1.alloc hA1.size (.cells #[.int .i64 0] 3)
  have hA4 := hA2.alloc hA2.size (.cells #[.int .i64 0] 3)
  have B3 : Blk (((w.alloc (.cells #[.int .i64 x] 3)).alloc (.cells #[.int .i64 0] 3)).alloc (.cells #[.int .i64 0] 3)) w.heap.size 3 #[.int .i64 x] := (((Blk.new w 3 #[.int .i64 x]).alloc _).alloc _)
  have B4 : Blk (((w.alloc (.cells #[.int .i64 x] 3)).alloc (.cells #[.int .i64 0] 3)).alloc (.cells #[.int .i64 0] 3)) (w.heap.size + 1) 3 #[.int .i64 0] := by
    have := (Blk.new (w.alloc (.cells #[.int .i64 x] 3)) 3 #[.int .i64 0]).alloc (.cells #[.int .i64 0] 3)
    rw [World.size_alloc] at this
    exact this
  have B5 : Blk (((w.alloc (.cells #[.int .i64 x] 3)).alloc (.cells #[.int .i64 0] 3)).alloc (.cells #[.int .i64 0] 3)) (w.heap.size + 1 + 1) 3 #[.int .i64 0] := by
    have := Blk.new ((w.alloc (.cells #[.int .i64 x] 3)).alloc (.cells #[.int .i64 0] 3)) 3 #[.int .i64 0]
    rw [World.size_alloc, World.size_alloc] at this
    exact this
  clear hA1 hA2
  refine (callsIn_wide (n := 6)).1 ?_
  refine callsIn_of_wp_marks Tryz.func29 rfl trivial ?_ rfl
  simp only [Tryz.ntmps29, List.size_toArray, List.length_cons, List.length_nil, Nat.reduceAdd, Nat.reduceSub, Array.replicate_succ, Array.replicate_zero, List.push_toArray, List.append_toArray, List.nil_append, List.cons_append]
  refine wpIn_wide.2 ?_
  go_wp2_with fail
  generalize (((w.alloc (.cells #[.int .i64 x] 3)).alloc (.cells #[.int .i64 0] 3)).alloc (.cells #[.int .i64 0] 3)) = w0 at hA4 B3 B4 B5 ⊢
  refine (gEach_any s w0).mono ?_
  rintro e w1 ⟨bs, rfl, hc, hb⟩
  have hW1 := below_two hA4 hb
  have C3 := B3.below hb
  have C4 := B4.below hb
  have C5 := B5.below hb
  have hz6 := C5.lt
  have hE1 := hE.below hW1
  clear hA4 hb B3 B4 B5 hE
  go_wp2_with fail
  refine (wpIn_wide (n := 6)).1 ?_
  refine rngH rfl (by decide) (gf := 66) (lb := #[.pointer (some ⟨bs, 0, none⟩)]) rfl trivial (enters_of Tryz.func66 (by kernel_rfl) rfl)
    (gEach_seq 5 (by decide) w1 s bs (fun _ => False) (fun _ h => h.elim) hE1 hs hc) (fun h k => h.trans k) (fun W l o o' _ h hc _ => KT.put W l o o' h hc) (Below.refl _ _) (fun _ => rfl) (fun W => KT.refl _ _ W)
    (fun (pre : List (Nat × Nat)) W => NoA s x pre ∧ Below w1.heap.size w1 W)
    (fun cc pre W => cc = .ret ∧ ArM s x w pre W)
    (OwnFrom.and (fun _ _ _ _ hs _ _ => hs) (ownFrom_below (Nat.le_refl _) (Nat.le_refl _)))
    (fun cc pre A B row hs hg hr => by
      obtain ⟨h1, q, pre0, h2, h3, h4, h5, h6, h8⟩ := hs
      exact ⟨h1, q, pre0, h2, h3, h4, h5.kept hg (fun r e => (hr r e).2), h6.kept hg (fun r e => (hr r e).2), ownFrom_below (β := Unit) (Nat.le_refl w.heap.size) (by omega : w.heap.size ≤ w1.heap.size) () A B row h8 hg hr⟩)
    ⟨(fun p hp => by cases hp), Below.refl _ _⟩
    (fun T (x : Nat × Nat) => (((T.setIfInBounds 10 (.int .i64 ((clP s x).1 : Nat))).setIfInBounds 11 (.int .i64 ((clP s x).2 : Nat))).setIfInBounds 6 (.int .i64 ((clP s x).1 : Nat))).setIfInBounds 7 (.int .i64 ((clP s x).2 : Nat))) ?assign ?body ?done ?stop
  case assign =>
    intro l2 x V K hK
    simp only [List.setIfInBounds_toArray, List.set_cons_succ, List.set_cons_zero] at hK
    simp only [encCl, encP2]
    gi_wp2
    exact hK
  case body =>
    rintro l2 pre y W hl2 _ ⟨hno, hbW⟩ hlen
    simp only [List.setIfInBounds_toArray, List.set_cons_succ, List.set_cons_zero]
    obtain ⟨⟨a, b⟩, hab⟩ : ∃ z, clP s y = z := ⟨_, rfl⟩
    rw [hab]
    simp only
    have c3 := (C3.below hbW).cell 0
    have D4 := C4.below hbW
    have D5 := C5.below hbW
    have c4 := D4.cell 0
    have c5 := D5.cell 0
    have f4 := D4.frozen 0
    have f5 := D5.frozen 0
    simp only [List.getElem?_toArray, List.getElem?_cons_zero] at c3 c4 c5
    have hz4 : w.heap.size + 1 + 1 < w1.heap.size := hz6
    have HNo := Lib.hid hno
    have HAB := Lib.hid hab
    clear hno hab
    have hstop : ¬ ((a : Int) ≤ x ∧ x < (b : Int)) → Hid (NoA s x (pre ++ [y])) := fun hq => Lib.hid (fun p hp => by
      rcases List.mem_append.1 hp with h | h
      · exact HNo.out p h
      · rw [List.mem_singleton] at h; subst h; rw [HAB.out]; unfold arT
        rw [Bool.and_eq_false_iff, decide_eq_false_iff_not, decide_eq_false_iff_not]
        by_cases h1 : (a : Int) ≤ x
        · exact .inr fun h2 => hq ⟨h1, h2⟩
        · exact .inl h1)
    by_cases h1 : (a : Int) ≤ x
    · by_cases h2 : x < (b : Int)
      · have HT : Hid (arT x (clP s y) = true) := Lib.hid (by rw [HAB.out]; unfold arT; rw [decide_eq_true h1, decide_eq_true h2]; rfl)
        clear hstop
        gi_wp2
        have E4 := D4.set_ 0 (.int .i64 (a : Nat))
        have E5 := (blk_farG (p := ⟨w.heap.size + 1, 0, none⟩) (u := .int .i64 (a : Nat)) D5 (by simp)).set_ 0 (.int .i64 (b : Nat))
        refine ⟨((KeepsOthers.setCell _ _ _).trans (KeepsOthers.setCell _ _ _)).from _, rfl, y, pre, rfl, HNo.out, HT.out, ?_, ?_, ?_⟩
        · rw [HAB.out]; exact blk_farG E4 (by simp)
        · rw [HAB.out]; exact E5
        · exact (((hW1.trans (hbW.mono hW1.size)).setCell (p := ⟨w.heap.size + 1, 0, none⟩) (by simp only; omega) _).setCell (p := ⟨w.heap.size + 1 + 1, 0, none⟩) (by simp only; omega) _)
      · have HNo2 := hstop (fun h => h2 h.2)
        clear hstop
        gi_wp2
        exact ⟨KeepsFrom.refl _ _, KT.refl _ _ _, HNo2.out, hbW⟩
    · have HNo2 := hstop (fun h => h1 h.1)
      clear hstop
      gi_wp2
      exact ⟨KeepsFrom.refl _ _, KT.refl _ _ _, HNo2.out, hbW⟩
  case done =>
    rintro D ys V hD hys ⟨hno, hbV⟩ hK
    subst hys
    have HV : Hid (aroundL (boundsG gG s) x = (0, 0)) := Lib.hid (by
      have : (piecesF (boundsG gG s)).find? (arT x) = none := by
        rw [List.find?_eq_none]
        intro p hp
        have := hno p hp
        rw [pieces_clG hp] at this
        simpa using this
      unfold aroundL; rw [this]; rfl)
    have D4 := C4.below hbV
    have D5 := C5.below hbV
    have c4 := D4.cell 0
    have c5 := D5.cell 0
    have f4 := D4.frozen 0
    have f5 := D5.frozen 0
    simp only [List.getElem?_toArray, List.getElem?_cons_zero] at c4 c5
    go_wp2
    have hz4 : w.heap.size + 1 + 1 < w1.heap.size := hz6
    have E4 := D4.set_ 0 (.int .i64 0)
    have E5 := (blk_farG (p := ⟨w.heap.size + 1, 0, none⟩) (u := .int .i64 0) D5 (by simp)).set_ 0 (.int .i64 0)
    have hK3 := (Below.heap_setCell _ ⟨w.heap.size + 1 + 1, 0, none⟩ (.int .i64 0) D (by simp only; omega)).trans ((Below.heap_setCell V ⟨w.heap.size + 1, 0, none⟩ (.int .i64 0) D (by simp only; omega)).trans hK)
    refine ⟨by simp, .inl ⟨_, _, rfl, run_takeDeferred hK3, ?_⟩⟩
    have F4 := blk_putG (D := D) (o := .deferred none) (blk_farG (p := ⟨w.heap.size + 1 + 1, 0, none⟩) (u := .int .i64 0) E4 (by simp)) (by omega)
    have F5 := blk_putG (D := D) (o := .deferred none) E5 (by omega)
    refine ⟨_, res_around _ _ _ _ rfl rfl (F4.cell 0) (F5.cell 0), by rw [HV.out] <;> rfl, ?_⟩
    exact ((((hW1.trans (hbV.mono hW1.size)).setCell (p := ⟨w.heap.size + 1, 0, none⟩) (by simp only; omega) _).setCell (p := ⟨w.heap.size + 1 + 1, 0, none⟩) (by simp only; omega) _)).trans (belowK_b (w := w) (Nat.le_refl _) _ D _ _ (by omega) hK3 rfl rfl)
  case stop =>
    rintro D cc pre W hD hp ⟨rfl, q, pre0, rfl, h3, h4, h5, h6, h8⟩ hK
    have hmem : ∀ p ∈ pre0 ++ [q], p ∈ piecesF (boundsG gG s) := fun p h => hp.subset h
    have HV : Hid (aroundL (boundsG gG s) x = ((clP s q).1, (clP s q).2)) := Lib.hid (by
      have : (piecesF (boundsG gG s)).find? (arT x) = some q := by
        refine find_prefixG hp (fun p hp' => ?_) ?_
        · have := h3 p hp'
          rwa [pieces_clG (hmem p (by simp [hp']))] at this
        · rwa [pieces_clG (hmem q (by simp))] at h4
      unfold aroundL; rw [this, pieces_clG (hmem q (by simp))]; rfl)
    have c4 := h5.cell 0
    have c5 := h6.cell 0
    simp only [List.getElem?_toArray, List.getElem?_cons_zero] at c4 c5
    have hz4 : w.heap.size + 1 + 1 < w1.heap.size := hz6
    gi_wp2
    refine ⟨by simp, .inl ⟨_, _, rfl, run_takeDeferred hK, ?_⟩⟩
    have F4 := blk_putG (D := D) (o := .deferred none) h5 (by omega)
    have F5 := blk_putG (D := D) (o := .deferred none) h6 (by omega)
    refine ⟨_, res_around _ _ _ _ rfl rfl (F4.cell 0) (F5.cell 0), by rw [HV.out] <;> rfl, ?_⟩
    exact h8.trans (belowK_b (w := w) (Nat.le_refl _) _ D _ _ (by omega) hK rfl rfl)
end Go.Proofs.YtdnkignhenkamaaGreatDoor

/- -/
namespace Go.Proofs.YtdnkignhenkamaaGreatDoor
open Go.RowKit
set_option maxRecDepth 100000 in
set_option maxHeartbeats 4000000 in
theorem glive_any (w : World) (hE : Env w) : Calls Tryz.prog 14 #[] w fun e w' => e = .returned (.bool true) ∧ Below w.heap.size w w' := by
  have H1 := Lib.hid (gBounds_any ⟨#[101, 204, 129, 120, 13, 10]⟩ w hE (by decide))
  have H2 := Lib.hid (fun W (h : Env W) => gCount_any ⟨#[240, 159, 135, 166, 240, 159, 135, 167, 240, 159, 135, 168]⟩ W h (by decide))
  have H3 := Lib.hid (fun W (h : Env W) => gTurn_any ⟨#[101, 204, 129, 120]⟩ W h (by decide))
  have H4 := Lib.hid (fun W (h : Env W) => gNext_any ⟨#[101, 204, 129, 120]⟩ 0 W h (by decide))
  rw [glive_bounds] at H1
  simp only [glive_count] at H2
  simp only [glive_turn] at H3
  simp only [glive_next] at H4
  go_enter Tryz.func14, Tryz.ntmps14
  go_wp2_with fail
  refine H1.out.mono ?_
  rintro e w1 ⟨A, n, c, rfl, ho, hb1⟩
  obtain rfl : 4 = n := ho.len
  have hb4 : Below w.heap.size w (w1.alloc (.cells #[.int .i64 0, .int .i64 3, .int .i64 4, .int .i64 6] 3)) := hb1.alloc hb1.size _
  have ho := ho.alloc (.cells #[.int .i64 0, .int .i64 3, .int .i64 4, .int .i64 6] 3)
  have hr := Rd.manyQ w1 3 1 ([(0 : Nat), 3, 4, 6].map encN) #[.int .i64 0, .int .i64 3, .int .i64 4, .int .i64 6] rfl (by intro x hx; obtain ⟨y, _, rfl⟩ := List.mem_map.1 hx; rfl)
  have HY := Lib.hid (zPlaces_same A (some ⟨w1.heap.size, 0, none⟩) 4 c 4 [0, 3, 4, 6] _ (ho.rd (by decide)) hr rfl (by omega))
  clear H1 hr ho
  go_wp2_with fail
  refine HY.out.mono ?_
  rintro e w3 ⟨rfl, hb5⟩
  have hb6 := below_step hb4 hb5 hb4.size
  go_wp2_with fail
  refine (H2.out _ (hE.below hb6)).mono ?_
  rintro e w4 ⟨rfl, hb7⟩
  have hb8 := below_step hb6 hb7 hb6.size
  go_wp2_with fail
  refine (H3.out _ (hE.below hb8)).mono ?_
  rintro e w5 ⟨rfl, hb9⟩
  have hb10 := below_step hb8 hb9 hb8.size
  go_wp2_with fail
  refine (H4.out _ (hE.below hb10)).mono ?_
  rintro e w6 ⟨rfl, hb11⟩
  have hb12 := below_step hb10 hb11 hb10.size
  go_wp2
  go_ret
  exact ⟨rfl, hb12⟩
end Go.Proofs.YtdnkignhenkamaaGreatDoor

/- -/
namespace Go.Proofs.YtdnkignhenkamaaGreatDoor
open Go.RowKit Go.Maps
end Go.Proofs.YtdnkignhenkamaaGreatDoor

/- -/
namespace Go.Proofs.YtdnkignhenkamaaGreatDoor
open Go.RowKit Go.Maps
end Go.Proofs.YtdnkignhenkamaaGreatDoor

/- -/
namespace Go.Proofs.YtdnkignhenkamaaGreatDoor
open Go.RowKit Go.Maps
theorem blk_true {c : UInt8} (h : (c.toNat : Int) = 32 ∨ (c.toNat : Int) = 9) : blkB c = true := by
  have h1 : c = 32 ↔ c.toNat = 32 := u8_eq (n := 32) (by omega)
  have h2 : c = 9 ↔ c.toNat = 9 := u8_eq (n := 9) (by omega)
  simp only [blkB, Bool.or_eq_true, beq_iff_eq, h1, h2]; omega
theorem blk_false {c : UInt8} (h : ¬ ((c.toNat : Int) = 32 ∨ (c.toNat : Int) = 9)) : blkB c = false := by
  cases hb : blkB c with
  | false => rfl
  | true =>
    have h1 : c = 32 ↔ c.toNat = 32 := u8_eq (n := 32) (by omega)
    have h2 : c = 9 ↔ c.toNat = 9 := u8_eq (n := 9) (by omega)
    refine absurd ?_ h
    simp only [blkB, Bool.or_eq_true, beq_iff_eq, h1, h2] at hb; omega
theorem vblank_any (c : UInt8) (w : World) : Calls Tryz.prog 171 #[.int .u8 (c.toNat : Int)] w fun e w' => e = .returned (.bool (blkB c)) ∧ w = w' := by
  have HT := Lib.hid (@blk_true c)
  have HF := Lib.hid (@blk_false c)
  generalize (c.toNat : Int) = z at HT HF
  rcases (by omega : z = 32 ∨ z = 9 ∨ (z ≠ 32 ∧ z ≠ 9)) with h | h | ⟨h, h'⟩
  · have HV := Lib.hid (HT.out (.inl h))
    subst h
    go_enter Tryz.func171, Tryz.ntmps171
    go_wp2
    go_ret
    exact ⟨by rw [HV.out]; rfl, rfl⟩
  · have HV := Lib.hid (HT.out (.inr h))
    subst h
    go_enter Tryz.func171, Tryz.ntmps171
    go_wp2
    go_ret
    exact ⟨by rw [HV.out]; rfl, rfl⟩
  · have HV := Lib.hid (HF.out (by omega))
    have h1 : (z == 32) = false := beq_eq_false_iff_ne.2 h
    have h2 : (z == 9) = false := beq_eq_false_iff_ne.2 h'
    go_enter Tryz.func171, Tryz.ntmps171
    go_wp2
    go_ret
    exact ⟨by rw [HV.out]; rfl, rfl⟩
def strSize : Value → Nat
  | .string s => s.size
  | _ => 0
set_option maxRecDepth 100000 in
set_option maxHeartbeats 2000000 in
theorem vtrim_any (L : List UInt8) (w : World) (hL : L.length ≤ 1000000) : Calls Tryz.prog 134 #[.string (bytesOf L)] w fun e w' => e = .returned (.string (bytesOf (trimL L))) ∧ w = w' := by
  have HTE := Lib.hid (trimL_eq L)
  go_enter Tryz.func134, Tryz.ntmps134
  go_wp2
  go_loopw [0] (fun v wr => ∃ l : List UInt8, v = .string (bytesOf l) ∧ l.length ≤ L.length ∧ Hid (l.dropWhile blkB = L.dropWhile blkB) ∧ wr = w) (fun v _ => strSize v)
  case atStart => exact ⟨L, rfl, by omega, rfl, rfl⟩
  case round =>
    obtain ⟨l, rfl, hl, HD, rfl⟩ := hrel
    have hsz : (bytesOf l).size = l.length := bytesOf_size l
    by_cases hb : ∃ c r, l = c :: r ∧ blkB c = true
    · obtain ⟨c, r, rfl, hc⟩ := hb
      have h0 : 0 < (bytesOf (c :: r)).size := by rw [hsz]; simp
      have hix := index_at (bytesOf (c :: r)) 0 0 rfl h0
      have hg : (bytesOf (c :: r))[0]'h0 = c := by have := get_list h0; rw [bytesOf_list] at this; simpa using this.symm
      rw [hg] at hix
      have hgi : (((bytesOf (c :: r))[0]'h0).toNat : Int) = (c.toNat : Int) := by rw [hg]
      have HX := Lib.hid (ext_bytes (c :: r) 1)
      rw [hsz] at HX
      have hl2 : (r.length : Int) + 1 ≤ 1000000 := by simp at hl; omega
      clear hg
      go_wp2_with (go_at_call 171; refine (vblank_any c _).mono ?_; rw [hc]; rintro e w' ⟨rfl, rfl⟩)
      go_roundw
      case rel => exact ⟨r, by first | exact congrArg Value.string HX.out | (rw [← ext_bytes (c :: r) 1]; rfl), by simp at hl; omega, Lib.hid (by rw [← HD.out, drop_blank hc]), by first | rfl | trivial⟩
      case measure => simp only [strSize, ByteArray.size_extract, bytesOf_size, List.length_cons]; omega
    · have HLD : Hid (l = L.dropWhile blkB) := Lib.hid (by
        rw [← HD.out]
        cases l with
        | nil => rfl
        | cons c r =>
          have : blkB c = false := by
            cases hq : blkB c with
            | false => rfl
            | true => exact absurd ⟨c, r, rfl, hq⟩ hb
          exact (dropWhile_stop this).symm)
      have HTR : Hid (trimL L = trimR l) := Lib.hid (by rw [HTE.out, HLD.out])
      have hstop : l = [] ∨ ∃ c r, l = c :: r ∧ blkB c = false := by
        cases l with
        | nil => exact .inl rfl
        | cons c r =>
          refine .inr ⟨c, r, rfl, ?_⟩
          cases hq : blkB c with
          | false => rfl
          | true => exact absurd ⟨c, r, rfl, hq⟩ hb
      clear hb HD HLD
      rcases hstop with rfl | ⟨c, r, rfl, hc⟩
      · have HT0 : Hid (trimL L = []) := Lib.hid (by rw [HTR.out]; rfl)
        have hz0 : (bytesOf []).size = 0 := rfl
        go_wp2_with fail
        go_loopw [0] (fun v wq => v = .string (bytesOf []) ∧ wq = wr) (fun _ _ => 0)
        case atStart => exact ⟨rfl, rfl⟩
        case round =>
          obtain ⟨rfl, rfl⟩ := hrel
          go_wp2
          go_ret
          exact ⟨by rw [HT0.out]; rfl, rfl⟩
      · have h0 : 0 < (bytesOf (c :: r)).size := by rw [hsz]; simp
        have hix := index_at (bytesOf (c :: r)) 0 0 rfl h0
        have hg : (bytesOf (c :: r))[0]'h0 = c := by have := get_list h0; rw [bytesOf_list] at this; simpa using this.symm
        rw [hg] at hix
        have hgi : (((bytesOf (c :: r))[0]'h0).toNat : Int) = (c.toNat : Int) := by rw [hg]
        clear hg
        go_wp2_with (go_at_call 171; refine (vblank_any c _).mono ?_; rw [hc]; rintro e w' ⟨rfl, rfl⟩)
        go_loopw [0] (fun v wq => ∃ l : List UInt8, v = .string (bytesOf l) ∧ l.length ≤ L.length ∧ Hid (trimR l = trimL L) ∧ wq = wr) (fun v _ => strSize v)
        case atStart => exact ⟨c :: r, rfl, hl, Lib.hid HTR.out.symm, rfl⟩
        case round =>
          clear hix hgi h0
          obtain ⟨l, rfl, hl2, HD, rfl⟩ := hrel
          have hsz2 : (bytesOf l).size = l.length := bytesOf_size l
          rcases List.eq_nil_or_concat l with rfl | ⟨o, y, rfl⟩
          · have HT0 : Hid (trimL L = []) := Lib.hid (by rw [← HD.out]; rfl)
            have hz0 : (bytesOf []).size = 0 := rfl
            go_wp2
            go_ret
            exact ⟨by rw [HT0.out]; rfl, rfl⟩
          · rw [List.concat_eq_append] at *
            have hlast : (o ++ [y]).getLast? = some y := by simp
            have hol : (o ++ [y]).length = o.length + 1 := by simp
            rw [hol] at hsz2 hl2
            have hp : o.length < (bytesOf (o ++ [y])).size := by omega
            have hix := index_at (bytesOf (o ++ [y])) ((o.length : Int) + 1 - 1) o.length (by omega) hp
            have hix2 := index_at (bytesOf (o ++ [y])) (o.length : Int) o.length rfl hp
            have hg : (bytesOf (o ++ [y]))[o.length]'hp = y := by have := get_list hp; rw [bytesOf_list] at this; simpa using this.symm
            rw [hg] at hix hix2
            have hgi : (((bytesOf (o ++ [y]))[o.length]'hp).toNat : Int) = (y.toNat : Int) := by rw [hg]
            clear hg
            cases hy : blkB y with
            | true =>
              have HX : Hid ((bytesOf (o ++ [y])).extract 0 o.length = bytesOf o) := Lib.hid (by rw [ext_bytes0]; simp)
              have HD' : Hid (trimR o = trimL L) := Lib.hid (by rw [← HD.out, (trim_last hlast).1 hy, hol, Nat.add_sub_cancel]; simp)
              go_wp2_with (go_at_call 171; refine (vblank_any y _).mono ?_; rw [hy]; rintro e w' ⟨rfl, rfl⟩)
              go_roundw
              case rel => exact ⟨o, congrArg Value.string HX.out, by omega, HD', by first | rfl | trivial⟩
              case measure => simp only [strSize, ByteArray.size_extract, bytesOf_size, List.length_append, List.length_singleton]; omega
            | false =>
              have HD' : Hid (trimL L = o ++ [y]) := Lib.hid (by rw [← HD.out, (trim_last hlast).2 hy])
              go_wp2_with (go_at_call 171; refine (vblank_any y _).mono ?_; rw [hy]; rintro e w' ⟨rfl, rfl⟩)
              go_ret
              exact ⟨by rw [HD'.out]; rfl, rfl⟩
end Go.Proofs.YtdnkignhenkamaaGreatDoor

/- -/
namespace Go.Proofs.YtdnkignhenkamaaGreatDoor
open Go.RowKit Go.Maps
theorem Rd.atS {w : World} {A : Option Addr} {l : List (List UInt8)} {k : Nat} {x : List UInt8} (h : Rd w 1 A (l.map encNm)) (hk : l[k]? = some x) : ∃ b off, A = some ⟨b, off, none⟩ ∧ w.cell? ⟨b, off + k, none⟩ = some (.string (bytesOf x)) := by
  obtain ⟨b, off, rfl, hc⟩ := h (by intro e; cases l with | nil => simp at hk | cons _ _ => simp at e)
  have h0 := hc k 0 (encNm x) (.string (bytesOf x)) (by simp [hk]) rfl
  exact ⟨b, off, rfl, by simpa using h0⟩
end Go.Proofs.YtdnkignhenkamaaGreatDoor

/- -/
namespace Go.Proofs.YtdnkignhenkamaaGreatDoor
open Go.RowKit Go.Maps
structure RfX (w : World) (base p x : Nat) (An : Option Addr) (nn cn : Nat) (As : Option Addr) (ns cs : Nat) (xs : List (Option Addr × Nat × Nat)) (N : List (List UInt8)) (S : List (List (Int × Int))) : Prop where
  blk : Blk w p 72 #[.slice An nn cn, .slice As ns cs]
  pb : base ≤ p
  hn : Own w base 9 1 An nn cn (N.map encNm)
  hs : Own w base 74 1 As ns cs (xs.map encSl)
  hx : Sets w base xs S
  xp : x ≠ p
  xn : ∀ a, An = some a → a.block ≠ x
  xs_ : ∀ a, As = some a → a.block ≠ x
structure RfB (w : World) (base p x : Nat) (N : List (List UInt8)) (S : List (List (Int × Int))) : Prop where
  ex : ∃ (An : Option Addr) (nn cn : Nat) (As : Option Addr) (ns cs : Nat) (xs : List (Option Addr × Nat × Nat)), RfX w base p x An nn cn As ns cs xs N S
section
variable {w w' : World} {base p x : Nat} {An : Option Addr} {nn cn : Nat} {As : Option Addr} {ns cs : Nat} {xs : List (Option Addr × Nat × Nat)} {N : List (List UInt8)} {S : List (List (Int × Int))}
theorem RfX.below (h : RfX w base p x An nn cn As ns cs xs N S) (hb : Below w.heap.size w w') : RfX w' base p x An nn cn As ns cs xs N S := ⟨h.blk.below hb, h.pb, h.hn.below hb, h.hs.below hb, h.hx.below hb, h.xp, h.xn, h.xs_⟩
theorem RfB.below (h : RfB w base p x N S) (hb : Below w.heap.size w w') : RfB w' base p x N S := by
  obtain ⟨a1, a2, a3, a4, a5, a6, a7, h⟩ := h.ex
  exact ⟨a1, a2, a3, a4, a5, a6, a7, h.below hb⟩
theorem RfX.lenN (h : RfX w base p x An nn cn As ns cs xs N S) : N.length = nn := by simpa using h.hn.len
theorem RfX.lenS (h : RfX w base p x An nn cn As ns cs xs N S) : xs.length = ns ∧ S.length = ns := by
  have := h.hs.len; rw [List.length_map] at this
  exact ⟨this, by rw [← h.hx.len]; exact this⟩
theorem types_rf : (9 : TypeId) ≠ 74 ∧ (9 : TypeId) ≠ 72 ∧ (74 : TypeId) ≠ 72 ∧ (9 : TypeId) ≠ 110 ∧ (74 : TypeId) ≠ 110 ∧ (72 : TypeId) ≠ 110 := by decide
theorem RfX.named {w3 : World} {o : Obj} {n : List UInt8} {A3 : Option Addr} {c3 : Nat} (h : RfX w base p x An nn cn As ns cs xs N S) (ho3 : Own w3 base 9 1 A3 (nn + 1) c3 ((N ++ [n]).map encNm))
    (hg3 : (w.alloc o).grownBy w3 (An.map (·.block))) (hA3 : A3 = An ∨ A3 = some ⟨(w.alloc o).heap.size, 0, none⟩) (hx : x < w.heap.size) (hB : base ≤ w.heap.size) :
    Blk w3 p 72 #[.slice An nn cn, .slice As ns cs] ∧ RfX (w3.setCell ⟨p, 0, none⟩ (.slice A3 (nn + 1) c3)) base p x A3 (nn + 1) c3 As ns cs xs (N ++ [n]) S ∧
      KX base x w (w3.setCell ⟨p, 0, none⟩ (.slice A3 (nn + 1) c3)) ∧ KeepR base w (w3.setCell ⟨p, 0, none⟩ (.slice A3 (nn + 1) c3)) := by
  obtain ⟨t1, t2, t3, t4, t5, t6⟩ := types_rf
  have hg := grown_alloc hg3
  have b3 : Blk w3 p 72 #[.slice An nn cn, .slice As ns cs] := h.blk.grown hg (fun e => by cases An with | none => cases e | some a => simp at e; exact h.hn.off h.blk t2 a rfl e.symm)
  have s3 : Own w3 base 74 1 As ns cs (xs.map encSl) := h.hs.grown hg (fun a ha e => by cases An with | none => cases e | some b => simp at e; exact h.hn.apart h.hs t1 b a rfl ha e.symm)
  have x3 : Sets w3 base xs S := h.hx.grown hg (fun g q e => own_not_R h.hn t4 g q e)
  have hxA3 : ∀ a, A3 = some a → a.block ≠ x := fun a ha => by
    rcases hA3 with e | e
    · exact h.xn a (by rw [← e]; exact ha)
    · rw [e] at ha; injection ha with ha; subst ha; simp; omega
  refine ⟨b3, ⟨?_, h.pb, ?_, ?_, ?_, h.xp, hxA3, h.xs_⟩, ?_, ?_⟩
  · have := b3.set_ 0 (.slice A3 (nn + 1) c3)
    simpa using this
  · exact ho3.setCell (fun a ha => ho3.off b3 t2 a ha) _
  · exact s3.setCell (fun a ha => s3.off b3 t3 a ha) _
  · exact x3.setCell (blk_not_R b3 t6) _
  · refine (KX.grown hg hB (fun k hk => ?_)).trans (KX.setCell w3 h.pb (fun e => h.xp e.symm) _)
    cases An with
    | none => cases hk
    | some a => simp at hk; subst hk; exact ⟨(h.hn.lt a rfl).1, h.xn a rfl⟩
  · exact (KeepR.grown hg (fun g q e => own_not_R h.hn t4 g q e)).trans (KeepR.setCell (blk_not_R b3 t6) _)
theorem RfX.moreSet {w3 : World} {o : Obj} {A3 : Option Addr} {c3 : Nat} (h : RfX w base p x An nn cn As ns cs xs N S) (ho3 : Own w3 base 74 1 A3 (ns + 1) c3 ((xs ++ [(none, 0, 0)]).map encSl))
    (hg3 : (w.alloc o).grownBy w3 (As.map (·.block))) (hA3 : A3 = As ∨ A3 = some ⟨(w.alloc o).heap.size, 0, none⟩) (hx : x < w.heap.size) (hB : base ≤ w.heap.size) :
    Blk w3 p 72 #[.slice An nn cn, .slice As ns cs] ∧ RfX (w3.setCell ⟨p, 1, none⟩ (.slice A3 (ns + 1) c3)) base p x An nn cn A3 (ns + 1) c3 (xs ++ [(none, 0, 0)]) N (S ++ [[]]) ∧
      KX base x w (w3.setCell ⟨p, 1, none⟩ (.slice A3 (ns + 1) c3)) ∧ KeepR base w (w3.setCell ⟨p, 1, none⟩ (.slice A3 (ns + 1) c3)) := by
  obtain ⟨t1, t2, t3, t4, t5, t6⟩ := types_rf
  have hg := grown_alloc hg3
  have b3 : Blk w3 p 72 #[.slice An nn cn, .slice As ns cs] := h.blk.grown hg (fun e => by cases As with | none => cases e | some a => simp at e; exact h.hs.off h.blk t3 a rfl e.symm)
  have n3 : Own w3 base 9 1 An nn cn (N.map encNm) := h.hn.grown hg (fun a ha e => by cases As with | none => cases e | some b => simp at e; exact h.hn.apart h.hs t1 a b ha rfl e)
  have x3 : Sets w3 base xs S := h.hx.grown hg (fun g q e => own_not_R h.hs t5 g q e)
  have hxA3 : ∀ a, A3 = some a → a.block ≠ x := fun a ha => by
    rcases hA3 with e | e
    · exact h.xs_ a (by rw [← e]; exact ha)
    · rw [e] at ha; injection ha with ha; subst ha; simp; omega
  refine ⟨b3, ⟨?_, h.pb, ?_, ?_, ?_, h.xp, h.xn, hxA3⟩, ?_, ?_⟩
  · have := b3.set_ 1 (.slice A3 (ns + 1) c3)
    simpa using this
  · exact n3.setCell (fun a ha => n3.off b3 t2 a ha) _
  · exact ho3.setCell (fun a ha => ho3.off b3 t3 a ha) _
  · exact (x3.setCell (blk_not_R b3 t6) _).snoc (Own.nil_ _ _ _ _)
  · refine (KX.grown hg hB (fun k hk => ?_)).trans (KX.setCell w3 h.pb (fun e => h.xp e.symm) _)
    cases As with
    | none => cases hk
    | some a => simp at hk; subst hk; exact ⟨(h.hs.lt a rfl).1, h.xs_ a rfl⟩
  · exact (KeepR.grown hg (fun g q e => own_not_R h.hs t5 g q e)).trans (KeepR.setCell (blk_not_R b3 t6) _)
theorem RfX.storeSet {g k b' : Nat} {y : Option Addr × Nat × Nat} {l : List (Int × Int)} (h : RfX w base p x An nn cn (some ⟨g, 0, none⟩) ns cs xs N S) (hk : k < ns) (ho : Own w b' 110 2 y.1 y.2.1 y.2.2 (l.map encR)) (hb : base ≤ b') :
    RfX (w.setCell ⟨g, k, none⟩ (.slice y.1 y.2.1 y.2.2)) base p x An nn cn (some ⟨g, 0, none⟩) ns cs (xs.set k y) N (S.set k l) ∧ KX base x w (w.setCell ⟨g, k, none⟩ (.slice y.1 y.2.1 y.2.2)) := by
  obtain ⟨t1, t2, t3, t4, t5, t6⟩ := types_rf
  have hgp : g ≠ p := h.hs.off h.blk t3 _ rfl
  refine ⟨⟨h.blk.far (p := ⟨g, k, none⟩) (Ne.symm hgp) _, h.pb, ?_, ?_, ?_, h.xp, h.xn, h.xs_⟩, KX.setCell w (q := ⟨g, k, none⟩) (h.hs.lt _ rfl).1 (h.xs_ ⟨g, 0, none⟩ rfl) _⟩
  · exact h.hn.setCell (p := ⟨g, k, none⟩) (fun a ha e => h.hn.apart h.hs t1 a ⟨g, 0, none⟩ ha rfl e) _
  · exact h.hs.storedSl (by rw [h.lenS.1]; exact hk) y
  · refine Sets.set_ (h.hx.setCell (q := ⟨g, k, none⟩) (fun r => own_not_R h.hs t5 g r rfl) _) ?_
    exact (ho.setCell (p := ⟨g, k, none⟩) (fun a ha e => ho.apart h.hs (Ne.symm t5) a ⟨g, 0, none⟩ ha rfl e) _).more hb
end
theorem bytes_inj {a b : List UInt8} : bytesOf a = bytesOf b ↔ a = b := ⟨fun h => by rw [← bytesOf_list a, ← bytesOf_list b, h], fun h => by rw [h]⟩
theorem idx_step {N : List (List UInt8)} {n y : List UInt8} {i : Nat} (h : n ∉ N.take i) (hy : N[i]? = some y) : (y = n → N.idxOf? n = some i) ∧ (y ≠ n → n ∉ N.take (i + 1)) := by
  constructor
  · rintro rfl
    rw [List.idxOf?, List.findIdx?_eq_some_iff_getElem]
    obtain ⟨hlt, e⟩ := List.getElem?_eq_some_iff.1 hy
    refine ⟨hlt, by simp [e], fun j hj => ?_⟩
    simp only [Bool.not_eq_true, beq_eq_false_iff_ne]
    intro hjy
    exact h (List.mem_take_iff_getElem.2 ⟨j, by omega, by simpa using hjy⟩)
  · intro hne hm
    rw [List.take_add_one, hy] at hm
    simp at hm
    rcases hm with hm | hm
    · exact h hm
    · exact hne hm.symm
theorem idx_none {N : List (List UInt8)} {n : List UInt8} (h : n ∉ N) : N.idxOf? n = none := by
  rw [List.idxOf?, List.findIdx?_eq_none_iff]
  intro x hx
  simp only [beq_eq_false_iff_ne]
  rintro rfl; exact h hx
set_option maxRecDepth 100000 in
set_option maxHeartbeats 1000000 in
theorem vClass_any (base p x : Nat) (N : List (List UInt8)) (S : List (List (Int × Int))) (n : List UInt8) (w : World) (h : RfB w base p x N S) (hN : N.length ≤ 1000000) :
    Calls Tryz.prog 138 #[.pointer (some ⟨p, 0, none⟩), .string (bytesOf n)] w fun e w' => e = .returned (.tuple #[.int .i64 (((N.idxOf? n).getD 0 : Nat) : Int), .bool (N.idxOf? n).isSome]) ∧ w = w' := by
  obtain ⟨An, nn, cn, As, ns, cs, xs, hX⟩ := h.ex
  have hl := hX.lenN
  have Hl := Lib.hid hl
  have hrd := hX.hn.rd (by omega)
  have c0 := hX.blk.cell 0
  simp only [List.getElem?_toArray, List.getElem?_cons_zero] at c0
  have hnn : nn ≤ 1000000 := by omega
  clear hl h
  go_enter Tryz.func138, Tryz.ntmps138
  go_wp2
  go_loopw [6] (fun v wr => ∃ i : Nat, v = .int .i64 i ∧ i ≤ nn ∧ Hid (n ∉ N.take i) ∧ wr = w) (fun v _ => nn - (intOf v).toNat)
  case atStart => exact ⟨0, rfl, by omega, by simp [Hid], rfl⟩
  case round =>
    obtain ⟨i, rfl, hi, HN, rfl⟩ := hrel
    by_cases hlt : i < nn
    · obtain ⟨y, Hy⟩ : ∃ y, Hid (N[i]? = some y) := ⟨_, Lib.hid (List.getElem?_eq_getElem (show i < N.length by have := Hl.out; omega))⟩
      obtain ⟨b, off, rfl, hc⟩ := hrd.atS Hy.out
      have HI := Lib.hid (idx_step HN.out Hy.out)
      by_cases hyn : y = n
      · have HE := Lib.hid (HI.out.1 hyn)
        subst hyn
        go_wp2
        go_ret2
        exact ⟨by rw [HE.out]; rfl, rfl⟩
      · have HE := Lib.hid (HI.out.2 hyn)
        have e1 : ((bytesOf y).toList == (bytesOf n).toList) = false := by rw [ByteArray.toList_eq, ByteArray.toList_eq, bytesOf_list, bytesOf_list]; exact beq_eq_false_iff_ne.2 hyn
        have e3 : decide (bytesOf y = bytesOf n) = false := decide_eq_false (fun k => hyn (bytes_inj.1 k))
        clear hyn
        go_wp2
        go_roundw
        case rel => exact ⟨i + 1, by go_num, by omega, HE, by first | rfl | trivial⟩
        case measure => simp [intOf]; omega
    · have HE := Lib.hid (idx_none (N := N) (n := n) (by have := HN.out; rwa [List.take_of_length_le (by have := Hl.out; omega)] at this))
      go_wp2
      go_ret2
      exact ⟨by rw [HE.out]; rfl, rfl⟩
end Go.Proofs.YtdnkignhenkamaaGreatDoor

/- -/
namespace Go.Proofs.YtdnkignhenkamaaGreatDoor
open Go.RowKit
theorem run_split {s : ByteArray} {a x : Nat} {q : UInt8 → Bool} (hax : a ≤ x) (hx : x ≤ s.size) (h : (s.data.toList.drop a).takeWhile q = (s.data.toList.drop a).take (x - a) ++ (s.data.toList.drop x).takeWhile q) (hd : (s.data.toList.drop a).dropWhile q = (s.data.toList.drop x).dropWhile q)
    (hstop : ∀ b, (s.data.toList.drop x).head? = some b → q b = false) : (s.data.toList.drop a).takeWhile q = (s.extract a x).data.toList ∧ (s.data.toList.drop a).dropWhile q = s.data.toList.drop x ∧ ((s.data.toList.drop a).takeWhile q).length = x - a := by
  have e0 : (s.data.toList.drop x).takeWhile q = [] := by
    cases hl : s.data.toList.drop x with
    | nil => rfl
    | cons b l => rw [List.takeWhile_cons, if_neg (by rw [hstop b (by rw [hl]; rfl)]; simp)]
  have e1 : (s.data.toList.drop x).dropWhile q = s.data.toList.drop x := by
    cases hl : s.data.toList.drop x with
    | nil => rfl
    | cons b l => rw [List.dropWhile_cons, if_neg (by rw [hstop b (by rw [hl]; rfl)]; simp)]
  have e2 : (s.extract a x).data.toList = (s.data.toList.drop a).take (x - a) := by
    rw [ByteArray.data_extract, Array.toList_extract, List.extract_eq_take_drop]
  rw [e0, List.append_nil] at h
  refine ⟨by rw [h, e2], by rw [hd, e1], ?_⟩
  rw [h, List.length_take, List.length_drop, size_data]
  omega
theorem take_step (s : ByteArray) {a x : Nat} {b : UInt8} (hax : a ≤ x) (hd : s.data.toList.drop x = b :: s.data.toList.drop (x + 1)) : (s.data.toList.drop a).take (x + 1 - a) = (s.data.toList.drop a).take (x - a) ++ [b] := by
  have h1 : (s.data.toList.drop a)[x - a]? = some b := by
    rw [List.getElem?_drop, show a + (x - a) = x by omega]
    have := congrArg List.head? hd
    rw [List.head?_drop] at this
    exact this
  rw [show x + 1 - a = x - a + 1 by omega, List.take_add_one, h1]; rfl
set_option maxRecDepth 100000 in
set_option maxHeartbeats 8000000 in
theorem jname_any (p : Nat) (s : ByteArray) (A : Option Addr) (nn cn : Nat) (names : List (List UInt8)) (a d k i0 : Nat) (rest : List UInt8) (w : World) (h : RS w p s A nn cn names a d k) (ha : a ≤ s.size) (hs : s.size ≤ 1000000) (hnz : nn ≤ 1000000) (hP : pName names (s.data.toList.drop a) = some (i0, rest)) :
    Calls Tryz.prog 261 #[.pointer (some ⟨p, 0, none⟩)] w fun e w' => e = .returned (.int .i64 (i0 : Nat)) ∧ ∃ x, RS w' p s A nn cn names x d k ∧ s.data.toList.drop x = rest ∧ x ≤ s.size ∧ w.grownBy w' (some p) := by
  have HP := Lib.hid hP
  have c0 := h.c0
  have c1 := h.c1
  clear hP
  go_enter Tryz.func261, Tryz.ntmps261
  go_wp2_with fail
  go_loopw [10] (fun _ wr => ∃ x : Nat, RS wr p s A nn cn names x d k ∧ a ≤ x ∧ x ≤ s.size ∧ Hid ((s.data.toList.drop a).takeWhile pPart = (s.data.toList.drop a).take (x - a) ++ (s.data.toList.drop x).takeWhile pPart) ∧ Hid ((s.data.toList.drop a).dropWhile pPart = (s.data.toList.drop x).dropWhile pPart) ∧ w.grownBy wr (some p)) (fun _ wr => s.size - atOf wr p)
  case atStart => exact ⟨a, h, by omega, ha, Lib.hid (by rw [Nat.sub_self]; rfl), Lib.hid rfl, only_refl _ _⟩
  case round =>
    clear h c0 c1
    obtain ⟨x, hr, hax, hx, HT, HD, hg⟩ := hrel
    have c0 := hr.c0
    have c1 := hr.c1
    have c2 := hr.c2
    have f1 := hr.f 1
    have Hat := Lib.hid hr.atOf
    by_cases hlt : x < s.size ∧ ∃ b, (s.data.toList.drop x).head? = some b ∧ pPart b = true
    · obtain ⟨hlt, b', hb', hpb⟩ := hlt
      obtain ⟨b, hd, hidx⟩ := byte_at s hlt
      replace hpb : pPart b = true := by
        rw [hd] at hb'
        injection hb' with hb'
        rw [hb']
        exact hpb
      have HJ := Lib.hid (fun q => jpart_b b (wr.drewN q))
      rw [hpb] at HJ
      have HT2 := Lib.hid (show (s.data.toList.drop a).takeWhile pPart = (s.data.toList.drop a).take (x + 1 - a) ++ (s.data.toList.drop (x + 1)).takeWhile pPart by
        rw [HT.out, hd, List.takeWhile_cons, if_pos hpb, take_step s hax hd, List.append_assoc]; rfl)
      have HD2 := Lib.hid (show (s.data.toList.drop a).dropWhile pPart = (s.data.toList.drop (x + 1)).dropWhile pPart by
        rw [HD.out, hd, List.dropWhile_cons, if_pos hpb])
      clear hd hb'
      go_wp2_with fail
      go_quiet ((go_at_call 174; exact quiet_left (HJ.out _)))
      go_wp2
      have hr2 := (hr.drewN nq).setAt (x + 1)
      have ez : ((x + 1 : Nat) : Int) = (x : Int) + 1 := by omega
      rw [ez] at hr2
      refine ⟨⟨x + 1, hr2, by omega, by omega, HT2, HD2, only_setCell (only_drewN hg _) (.inl rfl) _⟩, ?_⟩
      rw [hr2.atOf, Hat.out]; omega
    · have hstop : ∀ b, (s.data.toList.drop x).head? = some b → pPart b = false := fun b hb => by
        by_cases h1 : x < s.size
        · cases hq : pPart b with
          | false => rfl
          | true => exact absurd ⟨h1, b, hb, hq⟩ hlt
        · rw [drop_end s h1] at hb; cases hb
      obtain ⟨k1, k2, k3⟩ := run_split hax hx HT.out HD.out hstop
      obtain ⟨sub, hsub⟩ : ∃ sub, s.extract a x = sub := ⟨_, rfl⟩
      rw [hsub] at k1
      have HPn : Hid (x - a ≤ 32 ∧ names.findIdx? (fun y => y == sub.data.toList) = some i0 ∧ rest = s.data.toList.drop x) := Lib.hid (by
        have h1 := HP.out
        unfold pName at h1
        rw [k3, k1, k2] at h1
        split at h1
        · cases h1
        · rename_i h32
          split at h1
          · cases h1
          · rename_i j hj
            injection h1 with h1
            injection h1 with h1 h2
            exact ⟨by omega, by rw [hj, h1], h2.symm⟩)
      have HSz := Lib.hid (show sub.size = x - a by rw [← hsub, ByteArray.size_extract]; omega)
      have HQ : Hid ((¬ x < s.size) ∨ (∃ (hlt : x < s.size) (b : UInt8), s.data.toList.drop x = b :: s.data.toList.drop (x + 1) ∧ (∀ W, (Instr.index 9 (.string s) (.int .i64 (x : Nat))).run Tryz.prog W = .ok (.int .u8 (b.toNat : Int)) W) ∧ pPart b = false)) := Lib.hid (by
        by_cases h1 : x < s.size
        · obtain ⟨b, hb1, hb2⟩ := byte_at s h1
          exact .inr ⟨h1, b, hb1, hb2, hstop b (by rw [hb1]; rfl)⟩
        · exact .inl h1)
      clear hlt hstop k1 k2 k3 HP HT HD
      have hax' : (a : Int) ≤ (x : Int) := by omega
      have hxs' : (x : Int) ≤ (s.size : Int) := by omega
      have hxa0 : ¬ x < a := by omega
      go_upto_region 2 with fail
      go_cut [31] from 10 to 30 (fun v wx => v = .bool false ∧ ∃ q, wx = wr.drewN q)
      case first =>
        rcases HQ.out with h1 | ⟨h1, b, hb1, hidx, hpb⟩
        · go_quiet (fail)
          go_wp2_with fail
          go_meet
          exact ⟨rfl, nq, rfl⟩
        · have HJ := Lib.hid (fun q => jpart_b b (wr.drewN q))
          rw [hpb] at HJ
          go_quiet ((go_at_call 174; exact quiet_left (HJ.out _)))
          go_wp2_with fail
          go_meet
          exact ⟨rfl, nq, rfl⟩
      case rest =>
        obtain ⟨rfl, q, rfl⟩ := hcut
        have hr2 := hr.drewN q
        have hg2 := only_drewN hg q
        have d0 := hr2.c0
        have d1 := hr2.c1
        have d2 := hr2.c2
        clear hr hg c0 c1 c2 f1 HQ
        generalize wr.drewN q = w3 at hr2 hg2 d0 d1 d2 ⊢
        go_wp2_with fail
        go_quiet (fail)
        have hsz32 : ¬ (32 : Int) < (sub.size : Int) := by have := HSz.out; have := HPn.out.1; omega
        have hr3 := hr2.drewN nq
        have hg3 := only_drewN hg2 nq
        have x0 := hr3.c0
        have x2 := hr3.c2
        clear hr2 hg2 d0 d1 d2 hsub
        generalize w3.drewN nq = w4 at hr3 hg3 x0 x2 ⊢
        have Hl := Lib.hid hr3.len
        have hrd := hr3.nm
        go_wp2_with fail
        go_loopw [5] (fun v wq => ∃ i : Nat, v = .int .i64 i ∧ i ≤ i0 ∧ wq = w4) (fun v _ => nn - (intOf v).toNat)
        case atStart => exact ⟨0, rfl, by omega, rfl⟩
        case round =>
          obtain ⟨i, rfl, hi, rfl⟩ := hrel
          have HF := Lib.hid (List.findIdx?_eq_some_iff_getElem.1 HPn.out.2.1)
          have hi0n : i0 < nn := by
            obtain ⟨h1, _⟩ := HF.out
            have := Hl.out
            omega
          have hin : i < nn := by omega
          obtain ⟨y, Hy⟩ : ∃ y, Hid (names[i]? = some y) := ⟨_, Lib.hid (List.getElem?_eq_getElem (show i < names.length by have := Hl.out; omega))⟩
          obtain ⟨b, off, rfl, hc⟩ := hrd.atS Hy.out
          by_cases hlt : i < i0
          · have hyn : y ≠ sub.data.toList := fun e => by
              obtain ⟨h1, h2, h3⟩ := HF.out
              have h4 := h3 i hlt
              obtain ⟨h5, h6⟩ := List.getElem?_eq_some_iff.1 Hy.out
              rw [h6, e] at h4
              simp at h4
            have e1 : ((bytesOf y).toList == sub.toList) = false := by rw [ByteArray.toList_eq, ByteArray.toList_eq, bytesOf_list]; exact beq_eq_false_iff_ne.2 hyn
            have e3 : decide (bytesOf y = sub) = false := decide_eq_false (fun k => hyn (by rw [← k, bytesOf_list]))
            clear hyn
            go_wp2
            go_roundw
            case rel => exact ⟨i + 1, by go_num, by omega, by first | rfl | trivial⟩
            case measure => simp [intOf]; omega
          · obtain rfl : i = i0 := by omega
            have hyn : bytesOf y = sub := by
              obtain ⟨h1, h2, h3⟩ := HF.out
              obtain ⟨h5, h6⟩ := List.getElem?_eq_some_iff.1 Hy.out
              rw [h6] at h2
              have h7 : y = sub.data.toList := by simpa using h2
              rw [h7, bytesOf_data]
            have e1 : ((bytesOf y).toList == sub.toList) = true := by rw [hyn]; simp
            have e3 : decide (bytesOf y = sub) = true := decide_eq_true hyn
            clear hyn hlt
            go_wp2
            go_ret
            exact ⟨rfl, x, hr3, HPn.out.2.2.symm, hx, hg3⟩
end Go.Proofs.YtdnkignhenkamaaGreatDoor

