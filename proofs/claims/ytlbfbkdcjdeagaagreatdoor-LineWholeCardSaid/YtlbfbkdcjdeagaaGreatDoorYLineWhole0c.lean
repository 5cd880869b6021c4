/-
  Several texts in one, in their build order: Vh, PrintS, Qd, Vi, Rgn, Wl.
-/
import Derived.Lib.AppendStr
import Derived.Lib.BufferRead
import Derived.Deep.RegionHeld3
import Derived.CallsIn
import Derived.OrdersIn
import Derived.RangeFuncCalls
import Derived.OwnWalkIn
import Derived.Test.YtlbfbkdcjdeagaaGreatDoorYLineWhole0b
import Derived.Test.YtlbfbkdcjdeagaaGreatDoorZ1a
import Derived.Test.YtlbfbkdcjdeagaaGreatDoorZ0a
import Derived.Test.YtlbfbkdcjdeagaaGreatDoorZWc
/-
  kerfref04: rest, New, walked.
-/
namespace Go.Proofs.YtlbfbkdcjdeagaaGreatDoor
open Go.RowKit Go.Maps

set_option maxRecDepth 100000 in
set_option maxHeartbeats 8000000 in
theorem vrest_any (p base x : Nat) (d : DbP) (w : World) (hd : RfB w base p x d.names d.sets) (ho : d.Ok) (ha : Apart d.sets) (hB : base ≤ w.heap.size) :
    Calls Tryz.prog 97 #[.pointer (some ⟨p, 0, none⟩)] w fun e w' => e = .returned (.tuple #[]) ∧ RfB w' base p x d.names d.full ∧ Below base w w' := by
  obtain ⟨An, nn, cn, As, ns, cs, xs, hX⟩ := hd.ex
  obtain ⟨j0, hj0, hy0, hy1, hy2⟩ := info_parts infoR
  have hns1 : 0 < ns := by
    have h1 := hX.lenS.2; have h2 := ho.len; have h3 := ho.head
    cases hd : d.names with
    | nil => rw [hd] at h3; cases h3
    | cons a b => rw [hd] at h2; simp at h2; omega
  obtain ⟨g, HAs, hgB, hgw⟩ := hX.hs.form hns1
  subst HAs
  have hns64 : ns ≤ 64 := by have h1 := hX.lenS.2; have h2 := ho.len; have h3 := ho.few; omega
  obtain ⟨T, HT⟩ : ∃ T, Hid (d.sets.tail = T) := ⟨_, rfl⟩
  have hTl : T.length + 1 = ns := by have h1 := hX.lenS.2; have := HT.out; rw [← this, List.length_tail]; omega
  have HTl := Lib.hid hTl
  have HTS : Hid (lenS T ≤ 1114112) := Lib.hid (by have := rng_len ho ha; rw [← HT.out]; omega)
  have HTN : Hid (∀ (k : Nat) (s : List (Int × Int)), T[k]? = some s → NF s ∧ d.sets[k + 1]? = some s) := Lib.hid (fun k s hk => by
    have : d.sets[k + 1]? = some s := by rw [← HT.out] at hk; rw [List.getElem?_tail] at hk; exact hk
    exact ⟨ho.nf s (List.mem_of_getElem? this), this⟩)
  have HFS := Lib.hid (full_set ho)
  have HRest : Hid (d.rest = notR (T.flatten)) := Lib.hid (by unfold DbP.rest; rw [HT.out])
  have c1 := hX.blk.cell 1
  simp at c1
  clear ho ha hTl hd
  go_enter Tryz.func97, Tryz.ntmps97
  go_wp2_with fail
  go_loopw [2, 3] (fun a v wr => ∃ (c : Nat) (Aa : Option Addr) (na ca : Nat), a = .slice Aa na ca ∧ v = .int .i64 (c + 1 : Nat) ∧ c + 1 ≤ ns ∧ Own wr w.heap.size 129 2 Aa na ca (((T.take c).flatten).map encR) ∧ Below w.heap.size w wr) (fun _ v _ => ns - (intOf v).toNat)
  case atStart => exact ⟨0, none, 0, 0, rfl, rfl, by omega, by simp; exact Own.nil_ _ _ _ _, Below.refl _ _⟩
  case round =>
    obtain ⟨c, Aa, na, ca, rfl, rfl, hc, hal, hb⟩ := hrel
    have hszr := hb.size
    have e1 := cell_keep c1 hb
    have hfl := Lib.hid (flat_le T c)
    have hnal : na ≤ 1114112 := by have h1 := hal.len; rw [List.length_map] at h1; have := hfl.out; have := HTS.out; omega
    by_cases hlt : c + 1 < ns
    · obtain ⟨s, Hs⟩ : ∃ s, Hid (T[c]? = some s) := ⟨_, Lib.hid (List.getElem?_eq_getElem (show c < T.length by have := HTl.out; omega))⟩
      obtain ⟨HNF, Hd⟩ := HTN.out c s Hs.out
      obtain ⟨⟨yA, yn, yc⟩, Hy⟩ : ∃ y, Hid (xs[c + 1]? = some y) := ⟨_, Lib.hid (List.getElem?_eq_getElem (show c + 1 < xs.length by have := hX.lenS.1; omega))⟩
      have hoy : Own w base 129 2 yA yn yc (s.map encR) := hX.hx.own (c + 1) (yA, yn, yc) s Hy.out Hd
      have hly : s.length = yn := by simpa using hoy.len
      have Hly := Lib.hid hly
      have hny := own_nf_len hoy HNF
      have hcell := cell_keep (hX.hs.cell' rfl Hy.out) hb
      have hoq := hoy.below hb
      have HFN := Lib.hid (flat_next Hs.out)
      have hfl2 := Lib.hid (flat_le T (c + 1))
      have hbound : na + yn ≤ 1114112 := by
        have h1 := hal.len; rw [List.length_map] at h1
        have h2 := hfl2.out; rw [HFN.out, List.length_append] at h2; have := HTS.out; omega
      have hI : (c : Int) + 1 < ns := by omega
      clear HNF Hd hly
      go_wp2_with (at_builtin; go_must (refine wpList_app rfl (.tmp 13) (.tmp 20) _ rfl w.heap.size 129 j0 _ 2 8 Tryz.underlying101 hj0 hy0 hy1 hy2 rfl (by omega) Aa na ca (((T.take c).flatten).map encR) rfl hal yA yn yc (s.map encR) rfl (by rw [List.length_map]; exact Hly.out) (hoq.rd (by omega)) (encR_ok s) (by unfold maxLen; omega) (by omega) (by omega) ?_); intro A3 c3 w3 ho3 hg3 hA3)
      have Ho3 : Own w3 w.heap.size 129 2 A3 (na + yn) c3 (((T.take (c + 1)).flatten).map encR) := by rw [HFN.out, List.map_append]; exact ho3
      have hb3 := below_app hb hg3 hszr (fun a ha => (hal.lt a ha).1)
      clear ho3 hg3
      go_roundw
      case rel => exact ⟨c + 1, A3, na + yn, c3, rfl, by go_num, by omega, Ho3, hb3⟩
      case measure => simp [intOf]; omega
    · obtain rfl : c + 1 = ns := by omega
      have HFe : Hid ((T.take c).flatten = T.flatten) := Lib.hid (by rw [List.take_of_length_le (by have := HTl.out; omega)])
      rw [HFe.out] at hal
      have hXr := hX.below hb
      have HNot := Lib.hid (sNot_any Aa na ca T.flatten wr.drew ((hal.rd (by omega)).drew) (by have h1 := hal.len; rw [List.length_map] at h1; exact h1) (by omega))
      obtain ⟨y0, hy0'⟩ : ∃ y, xs[0]? = some y := ⟨_, List.getElem?_eq_getElem (show 0 < xs.length by have := hX.lenS.1; omega)⟩
      have k0 := hXr.hs.cell' rfl hy0'
      have hXd := hXr.below (w' := wr.drew) ((Below.refl _ _).drew)
      have hBr : base ≤ wr.heap.size := by omega
      go_wp2_with fail
      refine wp_region_noPanic ?_
      go_region_law (go_simp; go_at_call 132; refine HNot.out.mono ?_; rintro e wz ⟨A', n', c', rfl, ho', hb'⟩; have kz0 := cell_keep (w := wr.drew) k0 hb'; have kz1 := cell_keep (w := wr.drew) e1 hb'; have kzf := (hXd.hs.below hb').frozen 0)
      all_goals
        refine NoPanic.normal ?_
        have hDz := (hXd.below hb').storeSet (k := 0) (y := (A', n', c')) (l := d.rest) (by omega) (by rw [HRest.out]; exact ho') hBr
        have hbz := (((hb.mono hB).trans ((Below.refl wr.heap.size wr).drew.mono hBr)).trans (hb'.mono hBr)).trans hDz.2.1
        rw [HFS.out] at hDz
        go_wp2
        first | exact ⟨_, results_none rfl _ _ _, rfl, ⟨_, _, _, _, _, _, _, hDz.1⟩, hbz⟩ | exact ⟨_, rfl, results_none rfl _ _ _, rfl, ⟨_, _, _, _, _, _, _, hDz.1⟩, hbz⟩ | exact ⟨rfl, _, results_none rfl _ _ _, rfl, ⟨_, _, _, _, _, _, _, hDz.1⟩, hbz⟩

/-- What the document's New leaves. -/
def RNewEnd (r : Except (Int × Nat) DbP) (e : Ending) (w' : World) (base : Nat) : Prop :=
  match r with
  | .error x => e = .returned (.tuple #[.pointer none, .int .i64 x.1, .int .i64 (x.2 : Int)])
  | .ok d => ∃ p x, e = .returned (.tuple #[.pointer (some ⟨p, 0, none⟩), .int .i64 0, .int .i64 0]) ∧ RfB w' base p x d.names d.full
theorem RNewEnd.err {r : Except (Int × Nat) DbP} {k : Int} {i : Nat} {w' : World} {base : Nat} (h : r = .error (k, i)) : RNewEnd r (.returned (.tuple #[.pointer none, .int .i64 k, .int .i64 (i : Int)])) w' base := by rw [h]; exact rfl
theorem RNewEnd.fine {r : Except (Int × Nat) DbP} {d : DbP} {p x : Nat} {w' : World} {base : Nat} (h : r = .ok d) (hd : RfB w' base p x d.names d.full) : RNewEnd r (.returned (.tuple #[.pointer (some ⟨p, 0, none⟩), .int .i64 0, .int .i64 0])) w' base := by rw [h]; exact ⟨p, x, rfl, hd⟩

theorem step_err {d : DbP} {L : List UInt8} {k : Int} (h : stepL d L = .error k) : 6 ≤ k := by
  unfold stepL at h
  split at h
  · cases h
  · injection h with h; omega
  · exact addL_err h
/-- The document's database at first. -/
theorem rfX_first (w : World) :
    RfX (((w.alloc (.cells #[.string (bytesOf otherL)] 9)).alloc (.cells #[.slice none 0 0] 101)).alloc (.cells #[.slice (some ⟨w.heap.size, 0, none⟩) 1 1, .slice (some ⟨w.heap.size + 1, 0, none⟩) 1 1] 73)) w.heap.size (w.heap.size + 2) (w.heap.size + 3)
      (some ⟨w.heap.size, 0, none⟩) 1 1 (some ⟨w.heap.size + 1, 0, none⟩) 1 1 [(none, 0, 0)] [otherL] [[]] ∧
    Below w.heap.size w (((w.alloc (.cells #[.string (bytesOf otherL)] 9)).alloc (.cells #[.slice none 0 0] 101)).alloc (.cells #[.slice (some ⟨w.heap.size, 0, none⟩) 1 1, .slice (some ⟨w.heap.size + 1, 0, none⟩) 1 1] 73)) := by
  have n1 : Own (w.alloc (.cells #[.string (bytesOf otherL)] 9)) w.heap.size 9 1 (some ⟨w.heap.size, 0, none⟩) 1 1 ([otherL].map encNm) := own_one (Nat.le_refl _)
  have s2 : Own ((w.alloc (.cells #[.string (bytesOf otherL)] 9)).alloc (.cells #[.slice none 0 0] 101)) w.heap.size 101 1 (some ⟨w.heap.size + 1, 0, none⟩) 1 1 ([((none : Option Addr), 0, 0)].map encSl) := by
    have := own_one (w := w.alloc (.cells #[.string (bytesOf otherL)] 9)) (t := 101) (u := .slice none 0 0) (base := w.heap.size) (by simp)
    rw [show (w.alloc (.cells #[.string (bytesOf otherL)] 9)).heap.size = w.heap.size + 1 by simp] at this
    exact this
  refine ⟨⟨?_, by omega, (n1.alloc _).alloc _, s2.alloc _, ⟨rfl, ?_⟩, by omega, fun a ha => by injection ha with ha; subst ha; show w.heap.size ≠ w.heap.size + 3; omega, fun a ha => by injection ha with ha; subst ha; show w.heap.size + 1 ≠ w.heap.size + 3; omega⟩, ?_⟩
  · have := Blk.new ((w.alloc (.cells #[.string (bytesOf otherL)] 9)).alloc (.cells #[.slice none 0 0] 101)) 73 #[.slice (some ⟨w.heap.size, 0, none⟩) 1 1, .slice (some ⟨w.heap.size + 1, 0, none⟩) 1 1]
    simpa using this
  · intro k x l hx hl
    match k, hx, hl with
    | 0, hx, hl => simp at hx hl; subst hx; subst hl; exact Own.nil_ _ _ _ _
    | k + 1, hx, hl => simp at hx
  · exact (((Below.refl _ _).alloc (Nat.le_refl _) _).alloc (by simp) _).alloc (by simp; omega) _

set_option maxRecDepth 100000 in
set_option maxHeartbeats 8000000 in
theorem vNew_any (t : List UInt8) (w : World) (ht : t.length ≤ maxLen) :
    Calls Tryz.prog 63 #[.string (bytesOf t)] w fun e w' => RNewEnd (newP t) e w' w.heap.size ∧ Below w.heap.size w w' := by
  have hsz : (bytesOf t).size = t.length := bytesOf_size t
  unfold maxLen at ht
  by_cases hl : 65536 < t.length
  · have HE := Lib.hid (newP_long hl)
    go_enter Tryz.func63, Tryz.ntmps63
    go_wp2
    go_ret3
    exact ⟨RNewEnd.err HE.out, Below.refl _ _⟩
  · have HG := Lib.hid (newP_go hl)
    obtain ⟨hX, hB0⟩ := rfX_first w
    have hw3 : w.heap.size + 3 = (((w.alloc (.cells #[.string (bytesOf otherL)] 9)).alloc (.cells #[.slice none 0 0] 101)).alloc (.cells #[.slice (some ⟨w.heap.size, 0, none⟩) 1 1, .slice (some ⟨w.heap.size + 1, 0, none⟩) 1 1] 73)).heap.size := by simp
    obtain ⟨L, HL⟩ : ∃ L, Hid (splitL t = L) := ⟨_, rfl⟩
    have HLl := Lib.hid (fun i l (h : L[i]? = some l) => line_len (t := t) (i := i) (l := l) (by rw [HL.out]; exact h))
    have HLn : Hid (L.length ≤ 65537) := Lib.hid (by rw [← HL.out, splitL_count]; have := List.count_le_length (a := (10 : UInt8)) (l := t); omega)
    have HNP : Hid (newP t = linesGo DbP.first L 0) := Lib.hid (by rw [HG.out, HL.out])
    have HV := Lib.hid (fun W => vLines_any t W (by omega))
    rw [HL.out] at HV
    go_enter Tryz.func63, Tryz.ntmps63
    go_wp2_with fail
    rw [show (⟨#[79, 116, 104, 101, 114]⟩ : ByteArray) = bytesOf otherL from rfl]
    generalize ((w.alloc (.cells #[.string (bytesOf otherL)] 9)).alloc (.cells #[.slice none 0 0] 101)).alloc (.cells #[.slice (some ⟨w.heap.size, 0, none⟩) 1 1, .slice (some ⟨w.heap.size + 1, 0, none⟩) 1 1] 73) = w3 at hX hB0 hw3 ⊢
    refine (HV.out w3).mono ?_
    rintro e w4 ⟨AL, nL, cL, rfl, hoL, hb4⟩
    have hnL : L.length = nL := by simpa using hoL.len
    have hX4 := hX.below hb4
    have hB4 := below_step hB0 hb4 (by have := hB0.size; omega)
    have HnL := Lib.hid hnL
    have HLne : Hid (L ≠ []) := Lib.hid (by rw [← HL.out]; exact splitL_ne t)
    clear hnL HG HL
    -- the block of the lines, or none
    obtain ⟨x, hxw, hXx, hcells⟩ : ∃ x, x < w4.heap.size ∧ RfX w4 w.heap.size (w.heap.size + 2) x (some ⟨w.heap.size, 0, none⟩) 1 1 (some ⟨w.heap.size + 1, 0, none⟩) 1 1 [(none, 0, 0)] [otherL] [[]] ∧
        (∀ W : World, W.heap[x]? = w4.heap[x]? → ∀ i l, L[i]? = some l → ∃ off, AL = some ⟨x, off, none⟩ ∧ W.cell? ⟨x, off + i, none⟩ = some (.string (bytesOf l))) := by
      have h0 : 0 < nL := by
        cases hq : L with
        | nil => exact absurd hq HLne.out
        | cons a b => rw [← HnL.out, hq]; simp
      obtain ⟨gx, hgx, hg1, hg2⟩ := hoL.form h0
      subst hgx
      refine ⟨gx, hg2, { hX4 with xp := by omega, xn := fun a ha => by injection ha with ha; subst ha; show w.heap.size ≠ gx; omega, xs_ := fun a ha => by injection ha with ha; subst ha; show w.heap.size + 1 ≠ gx; omega }, fun W hW i l hl => ?_⟩
      have h1 := hoL.cell (k := i) (j := 0) (x := encNm l) (u := .string (bytesOf l)) (by rw [List.getElem?_map, hl]; rfl) rfl
      simp only [Nat.mul_one, Nat.add_zero] at h1
      exact ⟨0, rfl, by rw [Nat.zero_add]; exact (World.cell?_of_block hW).trans h1⟩
    have HCells := Lib.hid hcells
    have hsw := hB4.size
    clear hcells hX hX4 hB0 hw3 hb4 hoL
    generalize w.heap.size + 2 = p at hXx ⊢
    go_wp2_with fail
    go_loopw [7] (fun v wr => ∃ (i : Nat) (d : DbP), v = .int .i64 i ∧ i ≤ L.length ∧ RfB wr w.heap.size p x d.names d.sets ∧ wr.heap[x]? = w4.heap[x]? ∧ Hid (NewAt L i d) ∧ Below w.heap.size w wr ∧ x < wr.heap.size) (fun v _ => L.length - (intOf v).toNat)
    case atStart => exact ⟨0, DbP.first, rfl, by omega, ⟨_, _, _, _, _, _, _, hXx⟩, rfl, newAt_first L, hB4, hxw⟩
    case round =>
      clear hXx
      obtain ⟨i, d, rfl, hi, hd, hxr, HN, hb, hxl⟩ := hrel
      have hszr := hb.size
      have hnl := HnL.out
      by_cases hlt : i < L.length
      · obtain ⟨l, Hl⟩ : ∃ l, Hid (L[i]? = some l) := ⟨_, Lib.hid (List.getElem?_eq_getElem hlt)⟩
        obtain ⟨off, rfl, hcell⟩ := HCells.out wr hxr i l Hl.out
        have hll := HLl.out i l Hl.out
        have HN2 := HLn.out
        have HA := Lib.hid (vline_any p w.heap.size x d l wr hd HN.out.2.2.1 hxl hszr (by omega))
        have hltn : i < nL := by omega
        clear hnl
        cases hs : stepL d l with
        | error k =>
          rw [hs] at HA
          have hk0 : ((k : Int) != 0) = true := by rw [bne_iff_ne]; have := step_err hs; omega
          have HE := Lib.hid (HNP.out.trans (newAt_err HN.out Hl.out hs))
          clear hs
          go_wp2_with fail
          refine HA.out.mono ?_
          rintro e w6 ⟨hk, hae⟩
          have he : e = .returned (.int .i64 k) := hae
          subst he
          go_wp2
          go_ret3
          exact ⟨RNewEnd.err HE.out, hb.trans hk.1⟩
        | ok d' =>
          rw [hs] at HA
          have HN' := Lib.hid (newAt_next HN.out Hl.out hs)
          clear hs
          go_wp2_with fail
          refine HA.out.mono ?_
          rintro e w6 ⟨hk, rfl, hd'⟩
          go_wp2
          go_roundw
          case rel => exact ⟨i + 1, d', by go_num, by omega, hd', (hk.2 hxl).trans hxr, HN', hb.trans hk.1, Nat.lt_of_lt_of_le hxl hk.1.size⟩
          case measure => simp [intOf]; omega
      · have HE := Lib.hid (HNP.out.trans (newAt_end HN.out hlt))
        have HC := Lib.hid (vrest_any p w.heap.size x d wr hd HN.out.2.2.1 HN.out.2.2.2 hszr)
        go_wp2_with (go_at_call 97; refine HC.out.mono ?_; rintro e w5 ⟨rfl, hda, hb5⟩)
        go_ret3
        exact ⟨RNewEnd.fine HE.out hda, hb.trans hb5⟩
end Go.Proofs.YtlbfbkdcjdeagaaGreatDoor

/-
  kerfref02.Print: the spelling of a set.
-/
namespace Go.Proofs.YtlbfbkdcjdeagaaGreatDoor
open Go.RowKit

theorem infoU8' : (Tryz.prog.info? 5).map (fun i => (i.zero, i.size, i.bytes)) = some (some (.int .u8 0), 1, 1) := by kernel_rfl
/-- Bytes that are the call's own. -/
def OwnB (w : World) (B : Nat) (v : Value) (l : List UInt8) : Prop := w.ownsRow B 5 1 v l.length (Lib.byteCells l)
theorem OwnB.below {w w' : World} {B : Nat} {v : Value} {l : List UInt8} (h : OwnB w B v l) (hb : Below w.heap.size w w') : OwnB w' B v l := by
  unfold OwnB at h ⊢
  refine ⟨h.1, ?_⟩
  rcases h.2 with h0 | ⟨g, cap, cur, hv, hg, hh, r⟩
  · exact .inl h0
  · exact .inr ⟨g, cap, cur, hv, hg, (hb.block g (Array.getElem?_eq_some_iff.1 hh).1).trans hh, r⟩
theorem OwnB.convert {w : World} {B : Nat} {v : Value} {l : List UInt8} (h : OwnB w B v l) : (convert 96 9 v).run Tryz.prog w = .ok (.string ⟨l.toArray⟩) w := by
  unfold OwnB at h
  rcases h.2 with ⟨rfl, h0⟩ | ⟨g, cap, cur, rfl, _, hg, _, _, _, ht⟩
  · have : l = [] := List.length_eq_zero_iff.1 h0
    subst this
    exact Lib.run_convert_nil_bytes w 96 9 5 0 Tryz.underlying96 Tryz.underlying5 Tryz.underlying9
  · exact run_convert_bytes_back w 96 9 5 ⟨g, 0, none⟩ cap l Tryz.underlying96 Tryz.underlying5 Tryz.underlying9 (Lib.bytes_of_row hg (by simpa using ht))
theorem OwnB.lt {w : World} {B : Nat} {v : Value} {l : List UInt8} (h : OwnB w B v l) : ∀ k, v.ownBlock = some k → B ≤ k := fun k hk => (World.ownsRow.lt h k hk).1
theorem OwnB.str {w : World} {B : Nat} {v : Value} {l : List UInt8} {s : ByteArray} {n : Nat} (h : w.ownsRow B 5 1 v (n + s.size) (Lib.byteCells l ++ Lib.strCells s)) (hn : n = l.length) : OwnB w B v (l ++ s.data.toList) := by
  unfold OwnB
  subst hn
  have e1 : Lib.byteCells (l ++ s.data.toList) = Lib.byteCells l ++ Lib.strCells s := by simp [Lib.byteCells, Lib.strCells]
  rw [e1, List.length_append, Array.length_toList]
  exact h
theorem OwnB.byte {w : World} {B : Nat} {v : Value} {l : List UInt8} {c : UInt8} {n : Nat} (h : w.ownsRow B 5 1 v (n + 1) (Lib.byteCells l ++ [.int .u8 c.toNat])) (hn : n = l.length) : OwnB w B v (l ++ [c]) := by
  unfold OwnB
  subst hn
  have e1 : Lib.byteCells (l ++ [c]) = Lib.byteCells l ++ [.int .u8 c.toNat] := by simp [Lib.byteCells]
  rw [e1, List.length_append]
  exact h
theorem OwnB.form {w : World} {B : Nat} {v : Value} {l : List UInt8} (h : OwnB w B v l) : ∃ A n c, v = .slice A n c := by
  unfold OwnB at h
  rcases h.2 with ⟨rfl, _⟩ | ⟨g, cap, cur, rfl, _⟩
  · exact ⟨_, _, _, rfl⟩
  · exact ⟨_, _, _, rfl⟩
theorem cell_grown {w w' : World} {o : Obj} {B b i : Nat} {v u : Value} {l : List UInt8} (hu : w.cell? ⟨b, i, none⟩ = some u) (ho : OwnB (w.alloc o) B v l) (hg : (w.alloc o).grownBy w' v.ownBlock) (hb : b < B) : w'.cell? ⟨b, i, none⟩ = some u := by
  have h1 : (w.alloc o).cell? ⟨b, i, none⟩ = some u := cell_keep hu ((Below.refl _ _).alloc (Nat.le_refl _) o)
  exact (World.cell?_of_block (hg.block b (cell_lt h1) (fun e => by have := ho.lt b e.symm; omega))).trans h1
theorem cell_grownS {w w' : World} {B b i : Nat} {v u : Value} {l : List UInt8} (hu : w.cell? ⟨b, i, none⟩ = some u) (ho : OwnB w B v l) (hg : w.grownBy w' v.ownBlock) (hb : b < B) : w'.cell? ⟨b, i, none⟩ = some u :=
  (World.cell?_of_block (hg.block b (cell_lt hu) (fun e => by have := ho.lt b e.symm; omega))).trans hu
theorem below_ownB {B : Nat} {a w w' : World} {v : Value} {l : List UInt8} (h : Below B a w) (ho : OwnB w B v l) (hg : w.grownBy w' v.ownBlock) (hB : B ≤ w.heap.size) : Below B a w' := h.grown hg hB fun k hk => ho.lt k hk
theorem cell_newB (w : World) {t : TypeId} (x : Value) : ∀ j u, [x][j]? = some u → (w.alloc (.cells #[x] t)).cell? ((⟨w.heap.size, 0, none⟩ : Addr).add j) = some u := fun j u h => by
  match j, h with
  | 0, h =>
    obtain rfl : x = u := by simpa using h
    exact (Blk.new w t #[x]).cell 0

end Go.Proofs.YtlbfbkdcjdeagaaGreatDoor

/-
  kerflaw04.PropsBack, walked.
-/
namespace Go.Proofs.YtlbfbkdcjdeagaaGreatDoor
open Go.RowKit Go.Maps

theorem setI_at {d : DbP} {i : Nat} {s : List (Int × Int)} (h : d.full[i]? = some s) : d.setI (i : Int) = s := by
  unfold DbP.setI
  rw [if_pos (by omega), List.getD_eq_getElem?_getD, show ((i : Int).toNat) = i by omega, h]; rfl
end Go.Proofs.YtlbfbkdcjdeagaaGreatDoor

/-
  kerfref04: Get, Set, Text, walked.
-/
namespace Go.Proofs.YtlbfbkdcjdeagaaGreatDoor
open Go.RowKit Go.Maps

theorem getGo_hit {q : Int} {i : Nat} {s : List (Int × Int)} {S : List (List (Int × Int))} (h : hasB s q = true) : getGo q i (s :: S) = i := by unfold getGo; rw [if_pos h]
theorem getGo_miss {q : Int} {i : Nat} {s : List (Int × Int)} {S : List (List (Int × Int))} (h : hasB s q = false) : getGo q i (s :: S) = getGo q (i + 1) S := by conv => lhs; unfold getGo; rw [if_neg (by rw [h]; simp)]
theorem getGo_end {q : Int} {i : Nat} : getGo q i [] = 0 := rfl
set_option maxRecDepth 100000 in
set_option maxHeartbeats 4000000 in
theorem vGet_any (base p x : Nat) (d : DbP) (r : Int) (w : World) (h : RfB w base p x d.names d.full) (ho : d.Ok) (hap : Apart d.sets) :
    Calls Tryz.prog 60 #[.pointer (some ⟨p, 0, none⟩), .int .i32 r] w fun e w' => e = .returned (.int .i64 (d.get r : Nat)) ∧ w = w' := by
  obtain ⟨An, nn, cn, As, ns, cs, xs, hX⟩ := h.ex
  have hls := hX.lenS
  have hfl := full_len ho
  have hn0 : 0 < ns := by
    have h3 := ho.head
    cases hd : d.names with
    | nil => rw [hd] at h3; cases h3
    | cons a b => rw [hd] at hfl; simp at hfl; omega
  have hn64 : ns ≤ 64 := by have := ho.few; omega
  obtain ⟨g, rfl, _, _⟩ := hX.hs.form hn0
  have c1 := hX.blk.cell 1
  simp only [List.getElem?_toArray, List.getElem?_cons_zero, List.getElem?_cons_succ] at c1
  have HF := Lib.hid (fun i s (hi : d.full[i]? = some s) => full_small ho hap hi)
  have HG : Hid (d.get r = getGo (askR r) 1 d.full.tail) := rfl
  have Hls := Lib.hid (show d.full.length = ns from hls.2)
  have hcase : (r < 0 ∧ askR r = 65533) ∨ (¬ r < 0 ∧ 1114111 < r ∧ askR r = 65533) ∨ (¬ r < 0 ∧ ¬ 1114111 < r ∧ askR r = r) := by
    unfold askR; split <;> omega
  obtain ⟨q, hq⟩ : ∃ q, askR r = q := ⟨_, rfl⟩
  rw [hq] at HG hcase
  clear ho hap h hfl hq
  rcases hcase with ⟨h1, rfl⟩ | ⟨h1, h2, rfl⟩ | ⟨h1, h2, rfl⟩
  · go_enter Tryz.func60, Tryz.ntmps60
    go_wp2_with fail
    go_loopw [5] (fun v wr => ∃ k : Nat, v = .int .i64 (k + 1 : Nat) ∧ k + 1 ≤ ns ∧ wr = w ∧ Hid (d.get r = getGo 65533 (k + 1) (d.full.tail.drop k))) (fun v _ => ns - (intOf v).toNat)
    case atStart => exact ⟨0, rfl, by omega, rfl, by rw [List.drop_zero]; exact HG⟩
    case round =>
      obtain ⟨k, rfl, hk, rfl, HK⟩ := hrel
      by_cases hlt : k + 1 < ns
      · obtain ⟨s, Hs⟩ : ∃ s, Hid (d.full[k + 1]? = some s) := ⟨_, Lib.hid (List.getElem?_eq_getElem (show k + 1 < d.full.length by have := Hls.out; omega))⟩
        obtain ⟨⟨yA, yn, yc⟩, Hy⟩ : ∃ y, Hid (xs[k + 1]? = some y) := ⟨_, Lib.hid (List.getElem?_eq_getElem (show k + 1 < xs.length by omega))⟩
        have hoy : Own wr base 129 2 yA yn yc (s.map encR) := hX.hx.own (k + 1) (yA, yn, yc) s Hy.out Hs.out
        have hly : s.length = yn := by simpa using hoy.len
        have hsm := HF.out _ s Hs.out
        have hcell := hX.hs.cell' rfl Hy.out
        have HH := Lib.hid (sHas_any yA yn yc s 65533 wr (hoy.rd (by omega)) hly (by omega))
        have HD := Lib.hid (drop_at (show d.full.tail[k]? = some s by rw [List.getElem?_tail]; exact Hs.out))
        have hI : (k : Int) + 1 < ns := by omega
        rw [HD.out] at HK
        cases hv : hasB s 65533 with
        | true =>
          have HE := Lib.hid (HK.out.trans (getGo_hit hv))
          rw [hv] at HH
          clear hv hly
          go_wp2_with (go_at_call 88; refine HH.out.mono ?_; rintro e w2 ⟨rfl, rfl⟩)
          go_ret
          exact ⟨by rw [HE.out]; rfl, rfl⟩
        | false =>
          have HE := Lib.hid (HK.out.trans (getGo_miss hv))
          rw [hv] at HH
          clear hv hly
          go_wp2_with (go_at_call 88; refine HH.out.mono ?_; rintro e w2 ⟨rfl, rfl⟩)
          go_roundw
          case rel => exact ⟨k + 1, by go_num, by omega, by first | rfl | trivial, HE⟩
          case measure => simp [intOf]; omega
      · have HE : Hid (d.get r = 0) := Lib.hid (by rw [HK.out, List.drop_of_length_le (by rw [List.length_tail]; have := Hls.out; omega)]; rfl)
        obtain rfl : k + 1 = ns := by omega
        go_wp2
        go_ret
        exact ⟨by rw [HE.out]; rfl, rfl⟩
  · go_enter Tryz.func60, Tryz.ntmps60
    go_wp2_with fail
    go_loopw [5] (fun v wr => ∃ k : Nat, v = .int .i64 (k + 1 : Nat) ∧ k + 1 ≤ ns ∧ wr = w ∧ Hid (d.get r = getGo 65533 (k + 1) (d.full.tail.drop k))) (fun v _ => ns - (intOf v).toNat)
    case atStart => exact ⟨0, rfl, by omega, rfl, by rw [List.drop_zero]; exact HG⟩
    case round =>
      obtain ⟨k, rfl, hk, rfl, HK⟩ := hrel
      by_cases hlt : k + 1 < ns
      · obtain ⟨s, Hs⟩ : ∃ s, Hid (d.full[k + 1]? = some s) := ⟨_, Lib.hid (List.getElem?_eq_getElem (show k + 1 < d.full.length by have := Hls.out; omega))⟩
        obtain ⟨⟨yA, yn, yc⟩, Hy⟩ : ∃ y, Hid (xs[k + 1]? = some y) := ⟨_, Lib.hid (List.getElem?_eq_getElem (show k + 1 < xs.length by omega))⟩
        have hoy : Own wr base 129 2 yA yn yc (s.map encR) := hX.hx.own (k + 1) (yA, yn, yc) s Hy.out Hs.out
        have hly : s.length = yn := by simpa using hoy.len
        have hsm := HF.out _ s Hs.out
        have hcell := hX.hs.cell' rfl Hy.out
        have HH := Lib.hid (sHas_any yA yn yc s 65533 wr (hoy.rd (by omega)) hly (by omega))
        have HD := Lib.hid (drop_at (show d.full.tail[k]? = some s by rw [List.getElem?_tail]; exact Hs.out))
        have hI : (k : Int) + 1 < ns := by omega
        rw [HD.out] at HK
        cases hv : hasB s 65533 with
        | true =>
          have HE := Lib.hid (HK.out.trans (getGo_hit hv))
          rw [hv] at HH
          clear hv hly
          go_wp2_with (go_at_call 88; refine HH.out.mono ?_; rintro e w2 ⟨rfl, rfl⟩)
          go_ret
          exact ⟨by rw [HE.out]; rfl, rfl⟩
        | false =>
          have HE := Lib.hid (HK.out.trans (getGo_miss hv))
          rw [hv] at HH
          clear hv hly
          go_wp2_with (go_at_call 88; refine HH.out.mono ?_; rintro e w2 ⟨rfl, rfl⟩)
          go_roundw
          case rel => exact ⟨k + 1, by go_num, by omega, by first | rfl | trivial, HE⟩
          case measure => simp [intOf]; omega
      · have HE : Hid (d.get r = 0) := Lib.hid (by rw [HK.out, List.drop_of_length_le (by rw [List.length_tail]; have := Hls.out; omega)]; rfl)
        obtain rfl : k + 1 = ns := by omega
        go_wp2
        go_ret
        exact ⟨by rw [HE.out]; rfl, rfl⟩
  · go_enter Tryz.func60, Tryz.ntmps60
    go_wp2_with fail
    go_loopw [5] (fun v wr => ∃ k : Nat, v = .int .i64 (k + 1 : Nat) ∧ k + 1 ≤ ns ∧ wr = w ∧ Hid (d.get q = getGo q (k + 1) (d.full.tail.drop k))) (fun v _ => ns - (intOf v).toNat)
    case atStart => exact ⟨0, rfl, by omega, rfl, by rw [List.drop_zero]; exact HG⟩
    case round =>
      obtain ⟨k, rfl, hk, rfl, HK⟩ := hrel
      by_cases hlt : k + 1 < ns
      · obtain ⟨s, Hs⟩ : ∃ s, Hid (d.full[k + 1]? = some s) := ⟨_, Lib.hid (List.getElem?_eq_getElem (show k + 1 < d.full.length by have := Hls.out; omega))⟩
        obtain ⟨⟨yA, yn, yc⟩, Hy⟩ : ∃ y, Hid (xs[k + 1]? = some y) := ⟨_, Lib.hid (List.getElem?_eq_getElem (show k + 1 < xs.length by omega))⟩
        have hoy : Own wr base 129 2 yA yn yc (s.map encR) := hX.hx.own (k + 1) (yA, yn, yc) s Hy.out Hs.out
        have hly : s.length = yn := by simpa using hoy.len
        have hsm := HF.out _ s Hs.out
        have hcell := hX.hs.cell' rfl Hy.out
        have HH := Lib.hid (sHas_any yA yn yc s q wr (hoy.rd (by omega)) hly (by omega))
        have HD := Lib.hid (drop_at (show d.full.tail[k]? = some s by rw [List.getElem?_tail]; exact Hs.out))
        have hI : (k : Int) + 1 < ns := by omega
        rw [HD.out] at HK
        cases hv : hasB s q with
        | true =>
          have HE := Lib.hid (HK.out.trans (getGo_hit hv))
          rw [hv] at HH
          clear hv hly
          go_wp2_with (go_at_call 88; refine HH.out.mono ?_; rintro e w2 ⟨rfl, rfl⟩)
          go_ret
          exact ⟨by rw [HE.out]; rfl, rfl⟩
        | false =>
          have HE := Lib.hid (HK.out.trans (getGo_miss hv))
          rw [hv] at HH
          clear hv hly
          go_wp2_with (go_at_call 88; refine HH.out.mono ?_; rintro e w2 ⟨rfl, rfl⟩)
          go_roundw
          case rel => exact ⟨k + 1, by go_num, by omega, by first | rfl | trivial, HE⟩
          case measure => simp [intOf]; omega
      · have HE : Hid (d.get q = 0) := Lib.hid (by rw [HK.out, List.drop_of_length_le (by rw [List.length_tail]; have := Hls.out; omega)]; rfl)
        obtain rfl : k + 1 = ns := by omega
        go_wp2
        go_ret
        exact ⟨by rw [HE.out]; rfl, rfl⟩
end Go.Proofs.YtlbfbkdcjdeagaaGreatDoor

/-
  REGIONS THAT DRAW, IN A ROUND of a range over a function: what holds of such a region outside of rounds holds in them. No program's walk.
-/
namespace Go.Proofs.YtlbfbkdcjdeagaaGreatDoor
open Go Go.RowKit

section
variable {P : Program} {Q : Exit → Act → World → Prop} {l n : Nat}
/-- No operation is a defer statement. -/
def noDefer (ops : Array Oper) : Bool := ops.toList.all fun o => match o.op with | .defer _ => false | _ => true
theorem noDefer_at {ops : Array Oper} (h : noDefer ops = true) {i : Nat} {o : Oper} (ho : ops[i]? = some o) : ∀ c, o.op ≠ .defer c := fun c hc => by
  unfold noDefer at h
  rw [List.all_eq_true] at h
  have := h o (by rw [← Array.getElem?_toList] at ho; exact List.mem_of_getElem? ho)
  rw [hc] at this
  cases this
theorem wpIn_of_wp_round {o : Oper} (hd : ∀ c, o.op ≠ .defer c) {a : Act} {w : World} {K : Act → World → Prop} (h : o.wp P a w K Q) : o.wpIn (Fence.wide.inRound l) n P a w K Q := by
  refine ⟨fun _ _ => trivial, ?_⟩
  rw [Oper.semAt_plain _ _ _ hd]
  unfold Oper.wp at h
  generalize (execOp a.eval o).run P w = r at h ⊢
  cases r with
  | ok x w' =>
    cases x with
    | enter f args => exact ⟨fun h => by simp [Fence.wide, Fence.inRound] at h, CallsIn.inRound l (callsIn_wide.2 h)⟩
    | row row args => exact ⟨fun h => by simp [Fence.wide, Fence.inRound] at h, fun c cs _ => let ⟨v, w2, r1, s1⟩ := h c cs; ⟨v, w2, r1, stepsIn_wide.2 s1⟩⟩
    | round => exact False.elim h
    | _ => exact h
  | halt x w' => cases x <;> exact h
theorem wpOpsIn_round {ops : Array Oper} (hd : noDefer ops = true) (hL : ¬ LetsOut Q) : ∀ (L : List Nat) (a : Act) (w : World), wpOps P ops Q L a w → wpOpsIn (Fence.wide.inRound l) n P ops Q L a w
  | [], _, _, h => h
  | i :: rest, a, w, h => by
    unfold wpOps at h
    unfold wpOpsIn
    cases ho : ops[i]? with
    | none => simp only [ho] at h ⊢; exact wpOpsIn_round hd hL rest a w h
    | some o =>
      simp only [ho] at h ⊢
      by_cases hw : Region.wanted o (yielded ops a.tmps) = true
      · simp only [hw, if_true] at h ⊢
        rcases h with h | h
        · exact Oper.wpIn_mono (fun a w h => wpOpsIn_round hd hL rest a w h) (wpIn_of_wp_round (noDefer_at hd ho) h)
        · exact absurd h.2 hL
      · simp only [hw, if_false, Bool.false_eq_true] at h ⊢
        exact ⟨fun _ _ => trivial, wpOpsIn_round hd hL rest _ w h⟩
/-- A region that draws, in a round, by a condition S that holds all the while. -/
theorem wpIn_region_round {S : World → Prop} {id : Nat} {ops : Array Oper} {a : Act} {w : World} (hm : P.follows .mixedOrders = true) (hd : noDefer ops = true) (hL : ¬ LetsOut Q) (hS : S w.drew)
    (h : S w.drew → wpAnyH P .any ops Q S ops.size (Array.replicate ops.size false) a w.drew) : (Code.region id ops true).wpIn (Fence.wide.inRound l) n P Q a w :=
  wpIn_region_draw fun t => by
    simp only [Region.schedule, hm, Bool.true_or, if_true]
    exact wpOpsIn_round hd hL _ _ _ (wpAny_sound ops.size t _ a _ (wpAny_of_held _ _ _ _ (h hS)))
/-- An operation of the wide fence, in a round. -/
theorem wpIn_of_wide_round {o : Oper} (hd : ∀ c, o.op ≠ .defer c) {a : Act} {w : World} {K : Act → World → Prop} (h : o.wpIn Fence.wide n P a w K Q) : o.wpIn (Fence.wide.inRound l) n P a w K Q := by
  refine ⟨fun _ _ => trivial, ?_⟩
  have h2 := h.2
  rw [Oper.semAt_plain _ _ _ hd] at h2 ⊢
  generalize (execOp a.eval o).run P w = r at h2 ⊢
  cases r with
  | ok x w' =>
    cases x with
    | enter f args => exact ⟨fun h => by simp [Fence.wide, Fence.inRound] at h, CallsIn.inRound l h2.2⟩
    | row row args => exact ⟨fun h => by simp [Fence.wide, Fence.inRound] at h, fun c cs _ => h2.2 c cs (room_wide _)⟩
    | round => exact ⟨fun h => by simp [Fence.wide, Fence.inRound] at h, ⟨h2.2.1, fun c cs _ => h2.2.2 c cs (room_wide _)⟩⟩
    | _ => exact h2
  | halt x w' => cases x <;> exact h2
theorem wpOpsIn_wide_round {ops : Array Oper} (hd : noDefer ops = true) : ∀ (L : List Nat) (a : Act) (w : World), wpOpsIn Fence.wide n P ops Q L a w → wpOpsIn (Fence.wide.inRound l) n P ops Q L a w
  | [], _, _, h => h
  | i :: rest, a, w, h => by
    unfold wpOpsIn at h ⊢
    cases ho : ops[i]? with
    | none => simp only [ho] at h ⊢; exact wpOpsIn_wide_round hd rest a w h
    | some o =>
      simp only [ho] at h ⊢
      by_cases hw : Region.wanted o (yielded ops a.tmps) = true
      · simp only [hw, if_true] at h ⊢
        exact Oper.wpIn_mono (fun a w h => wpOpsIn_wide_round hd rest a w h) (wpIn_of_wide_round (noDefer_at hd ho) h)
      · simp only [hw, if_false, Bool.false_eq_true] at h ⊢
        exact ⟨fun _ _ => trivial, wpOpsIn_wide_round hd rest _ w h.2⟩
/-- A region that draws, in a round, by the wide fence's walk (a yield may stand in it). -/
theorem wpIn_region_wide {id : Nat} {ops : Array Oper} {a : Act} {w : World} (hm : P.follows .mixedOrders = true) (hd : noDefer ops = true)
    (h : wpAnyIn Fence.wide n P .any ops Q ops.size (Array.replicate ops.size false) a w.drew) : (Code.region id ops true).wpIn (Fence.wide.inRound l) n P Q a w :=
  wpIn_region_draw fun t => by
    simp only [Region.schedule, hm, Bool.true_or, if_true]
    exact wpOpsIn_wide_round hd _ _ _ (wpAnyIn_sound ops.size t _ a _ h)
theorem round_deep {m m' : Nat} {f : FuncId} {tmps : Array Value} {assign body : Code} {w : World} {R : Ending → World → Prop} (h : RoundIn Fence.wide m P l f tmps assign body w R) : RoundIn Fence.wide m' P l f tmps assign body w R :=
  ⟨h.1, fun c cs _ => h.2 c cs (room_wide _)⟩
end
end Go.Proofs.YtlbfbkdcjdeagaaGreatDoor

/-
  props.(*Db).Each: an iterator over utf.Each's, walked.
-/
namespace Go.Proofs.YtlbfbkdcjdeagaaGreatDoor
open Go.RowKit Go.Shelf Go.Maps
attribute [local go_sem] Oper.semAt_some

/-- A round's contract at whatever depth, where no depth is asked. -/
theorem round_any {m m' : Nat} {P : Program} {l l2 : Nat} {f : FuncId} {tmps : Array Value} {assign body : Code} {w : World} {R : Ending → World → Prop} (h : RoundIn Fence.wide m P l f tmps assign body w R) : RoundIn (Fence.wide.inRound l2) m' P l f tmps assign body w R :=
  ⟨h.1, fun c cs _ => h.2 c cs (room_wide _)⟩
/-- What a round keeps: what lay below m; cells but in the blocks of X; iterators. -/
def KpB (m : Nat) (X : Nat → Prop) (A B : World) : Prop := RowKit.Below m A B ∧ KC 0 X A B
theorem KpB.refl (m : Nat) (X : Nat → Prop) (W : World) : KpB m X W W := ⟨RowKit.Below.refl _ _, KC.refl _ _ _⟩
theorem KpB.trans {m : Nat} {X : Nat → Prop} {A B C : World} (h : KpB m X A B) (k : KpB m X B C) : KpB m X A C := ⟨h.1.trans k.1, h.2.trans k.2⟩
theorem KpB.put {m : Nat} {X : Nat → Prop} {w : World} (hm : m ≤ w.heap.size) (W : World) (l : Nat) (o o' : Obj) (hl : w.heap.size ≤ l) (h : W.heap[l]? = some o) (hc : o.isCells = false) (hw : o.isWalk = false) : KpB m X W (W.putObj l o') :=
  ⟨belowK_b (w := w) hm W l o o' hl h hc hw, KC.put W l o o' h hc hw⟩
theorem keepsFrom_below {B : Nat} {A C : World} (h : RowKit.Below A.heap.size A C) : KeepsFrom B A C := ⟨h.size, fun k _ _ hk _ => (h.block k (Array.getElem?_eq_some_iff.1 hk).1).trans hk⟩
theorem keepsWalks_below {A C : World} (h : RowKit.Below A.heap.size A C) : KeepsWalks A C := ⟨h.size, fun k _ hk _ => (h.block k (Array.getElem?_eq_some_iff.1 hk).1).trans hk⟩
theorem keeps_later {B C : Nat} {A D : World} (h : KeepsFrom B A D) (hBC : B ≤ C) : KeepsFrom C A D := ⟨h.size, fun k o hk h0 ho => h.same k o (Nat.le_trans hBC hk) h0 ho⟩
/-- A rune's place and its class. -/
def encWc (d : DbP) (x : Nat × Nat × Nat) : Array Value := #[.int .i64 (x.2.1 : Nat), .int .i64 (d.get (x.1 : Nat) : Nat)]
end Go.Proofs.YtlbfbkdcjdeagaaGreatDoor

