/-
  Several texts in one, in their build order: Vh, Tr.
-/
import Derived.Deep.RegionHeld3
import Derived.Test.YthlnfefpdmecaaaGreatDoorYLineNeverVg
import Derived.Test.YthlnfefpdmecaaaGreatDoorYLineNever0b
/-
  kerfref04: rest, New, walked.
-/
namespace Go.Proofs.YthlnfefpdmecaaaGreatDoor
open Go.RowKit Go.Maps

set_option maxRecDepth 100000 in
set_option maxHeartbeats 8000000 in
theorem vrest_any (p base x : Nat) (d : DbP) (w : World) (hd : RfB w base p x d.names d.sets) (ho : d.Ok) (ha : Apart d.sets) (hB : base ≤ w.heap.size) :
    Calls Tryz.prog 121 #[.pointer (some ⟨p, 0, none⟩)] w fun e w' => e = .returned (.tuple #[]) ∧ RfB w' base p x d.names d.full ∧ Below base w w' := by
  obtain ⟨An, nn, cn, As, ns, cs, xs, hX⟩ := hd.ex
  obtain ⟨j0, hj0, hy0, hy1, hy2⟩ := info_parts infoR
  have hns1 : 0 < ns := by
    have h1 := hX.lenS.2; have h2 := ho.len; have h3 := ho.head
    cases hd : d.names with
    | nil => rw [hd] at h3; cases h3
    | cons a b => rw [hd] at h2; simp at h2; omega
  obtain ⟨g, HAs, hgB, hgw⟩ := hX.hs.form hns1
  subst HAs
  have hns64 : ns ≤ 64 := by have h1 := hX.lenS.2; have h2 := ho.len; have h3 := ho.few; omega
  obtain ⟨T, HT⟩ : ∃ T, Hid (d.sets.tail = T) := ⟨_, rfl⟩
  have hTl : T.length + 1 = ns := by have h1 := hX.lenS.2; have := HT.out; rw [← this, List.length_tail]; omega
  have HTl := Lib.hid hTl
  have HTS : Hid (lenS T ≤ 1114112) := Lib.hid (by have := rng_len ho ha; rw [← HT.out]; omega)
  have HTN : Hid (∀ (k : Nat) (s : List (Int × Int)), T[k]? = some s → NF s ∧ d.sets[k + 1]? = some s) := Lib.hid (fun k s hk => by
    have : d.sets[k + 1]? = some s := by rw [← HT.out] at hk; rw [List.getElem?_tail] at hk; exact hk
    exact ⟨ho.nf s (List.mem_of_getElem? this), this⟩)
  have HFS := Lib.hid (full_set ho)
  have HRest : Hid (d.rest = notR (T.flatten)) := Lib.hid (by unfold DbP.rest; rw [HT.out])
  have c1 := hX.blk.cell 1
  simp at c1
  clear ho ha hTl hd
  go_enter Tryz.func121, Tryz.ntmps121
  go_wp2_with fail
  go_loopw [2, 3] (fun a v wr => ∃ (c : Nat) (Aa : Option Addr) (na ca : Nat), a = .slice Aa na ca ∧ v = .int .i64 (c + 1 : Nat) ∧ c + 1 ≤ ns ∧ Own wr w.heap.size 146 2 Aa na ca (((T.take c).flatten).map encR) ∧ Below w.heap.size w wr) (fun _ v _ => ns - (intOf v).toNat)
  case atStart => exact ⟨0, none, 0, 0, rfl, rfl, by omega, by simp; exact Own.nil_ _ _ _ _, Below.refl _ _⟩
  case round =>
    obtain ⟨c, Aa, na, ca, rfl, rfl, hc, hal, hb⟩ := hrel
    have hszr := hb.size
    have e1 := cell_keep c1 hb
    have hfl := Lib.hid (flat_le T c)
    have hnal : na ≤ 1114112 := by have h1 := hal.len; rw [List.length_map] at h1; have := hfl.out; have := HTS.out; omega
    by_cases hlt : c + 1 < ns
    · obtain ⟨s, Hs⟩ : ∃ s, Hid (T[c]? = some s) := ⟨_, Lib.hid (List.getElem?_eq_getElem (show c < T.length by have := HTl.out; omega))⟩
      obtain ⟨HNF, Hd⟩ := HTN.out c s Hs.out
      obtain ⟨⟨yA, yn, yc⟩, Hy⟩ : ∃ y, Hid (xs[c + 1]? = some y) := ⟨_, Lib.hid (List.getElem?_eq_getElem (show c + 1 < xs.length by have := hX.lenS.1; omega))⟩
      have hoy : Own w base 146 2 yA yn yc (s.map encR) := hX.hx.own (c + 1) (yA, yn, yc) s Hy.out Hd
      have hly : s.length = yn := by simpa using hoy.len
      have Hly := Lib.hid hly
      have hny := own_nf_len hoy HNF
      have hcell := cell_keep (hX.hs.cell' rfl Hy.out) hb
      have hoq := hoy.below hb
      have HFN := Lib.hid (flat_next Hs.out)
      have hfl2 := Lib.hid (flat_le T (c + 1))
      have hbound : na + yn ≤ 1114112 := by
        have h1 := hal.len; rw [List.length_map] at h1
        have h2 := hfl2.out; rw [HFN.out, List.length_append] at h2; have := HTS.out; omega
      have hI : (c : Int) + 1 < ns := by omega
      clear HNF Hd hly
      go_wp2_with (at_builtin; go_must (refine wpList_app rfl (.tmp 13) (.tmp 20) _ rfl w.heap.size 146 j0 _ 2 8 Tryz.underlying111 hj0 hy0 hy1 hy2 rfl (by omega) Aa na ca (((T.take c).flatten).map encR) rfl hal yA yn yc (s.map encR) rfl (by rw [List.length_map]; exact Hly.out) (hoq.rd (by omega)) (encR_ok s) (by unfold maxLen; omega) (by omega) (by omega) ?_); intro A3 c3 w3 ho3 hg3 hA3)
      have Ho3 : Own w3 w.heap.size 146 2 A3 (na + yn) c3 (((T.take (c + 1)).flatten).map encR) := by rw [HFN.out, List.map_append]; exact ho3
      have hb3 := below_app hb hg3 hszr (fun a ha => (hal.lt a ha).1)
      clear ho3 hg3
      go_roundw
      case rel => exact ⟨c + 1, A3, na + yn, c3, rfl, by go_num, by omega, Ho3, hb3⟩
      case measure => simp [intOf]; omega
    · obtain rfl : c + 1 = ns := by omega
      have HFe : Hid ((T.take c).flatten = T.flatten) := Lib.hid (by rw [List.take_of_length_le (by have := HTl.out; omega)])
      rw [HFe.out] at hal
      have hXr := hX.below hb
      have HNot := Lib.hid (sNot_any Aa na ca T.flatten wr.drew ((hal.rd (by omega)).drew) (by have h1 := hal.len; rw [List.length_map] at h1; exact h1) (by omega))
      obtain ⟨y0, hy0'⟩ : ∃ y, xs[0]? = some y := ⟨_, List.getElem?_eq_getElem (show 0 < xs.length by have := hX.lenS.1; omega)⟩
      have k0 := hXr.hs.cell' rfl hy0'
      have hXd := hXr.below (w' := wr.drew) ((Below.refl _ _).drew)
      have hBr : base ≤ wr.heap.size := by omega
      go_wp2_with fail
      refine wp_region_noPanic ?_
      go_region_law (go_simp; go_at_call 156; refine HNot.out.mono ?_; rintro e wz ⟨A', n', c', rfl, ho', hb'⟩; have kz0 := cell_keep (w := wr.drew) k0 hb'; have kz1 := cell_keep (w := wr.drew) e1 hb'; have kzf := (hXd.hs.below hb').frozen 0)
      all_goals
        refine NoPanic.normal ?_
        have hDz := (hXd.below hb').storeSet (k := 0) (y := (A', n', c')) (l := d.rest) (by omega) (by rw [HRest.out]; exact ho') hBr
        have hbz := (((hb.mono hB).trans ((Below.refl wr.heap.size wr).drew.mono hBr)).trans (hb'.mono hBr)).trans hDz.2.1
        rw [HFS.out] at hDz
        go_wp2
        first | exact ⟨_, results_none rfl _ _ _, rfl, ⟨_, _, _, _, _, _, _, hDz.1⟩, hbz⟩ | exact ⟨_, rfl, results_none rfl _ _ _, rfl, ⟨_, _, _, _, _, _, _, hDz.1⟩, hbz⟩ | exact ⟨rfl, _, results_none rfl _ _ _, rfl, ⟨_, _, _, _, _, _, _, hDz.1⟩, hbz⟩

/-- What the document's New leaves. -/
def RNewEnd (r : Except (Int × Nat) DbP) (e : Ending) (w' : World) (base : Nat) : Prop :=
  match r with
  | .error x => e = .returned (.tuple #[.pointer none, .int .i64 x.1, .int .i64 (x.2 : Int)])
  | .ok d => ∃ p x, e = .returned (.tuple #[.pointer (some ⟨p, 0, none⟩), .int .i64 0, .int .i64 0]) ∧ RfB w' base p x d.names d.full
theorem RNewEnd.err {r : Except (Int × Nat) DbP} {k : Int} {i : Nat} {w' : World} {base : Nat} (h : r = .error (k, i)) : RNewEnd r (.returned (.tuple #[.pointer none, .int .i64 k, .int .i64 (i : Int)])) w' base := by rw [h]; exact rfl
theorem RNewEnd.fine {r : Except (Int × Nat) DbP} {d : DbP} {p x : Nat} {w' : World} {base : Nat} (h : r = .ok d) (hd : RfB w' base p x d.names d.full) : RNewEnd r (.returned (.tuple #[.pointer (some ⟨p, 0, none⟩), .int .i64 0, .int .i64 0])) w' base := by rw [h]; exact ⟨p, x, rfl, hd⟩

theorem step_err {d : DbP} {L : List UInt8} {k : Int} (h : stepL d L = .error k) : 6 ≤ k := by
  unfold stepL at h
  split at h
  · cases h
  · injection h with h; omega
  · exact addL_err h
/-- The document's database at first. -/
theorem rfX_first (w : World) :
    RfX (((w.alloc (.cells #[.string (bytesOf otherL)] 9)).alloc (.cells #[.slice none 0 0] 111)).alloc (.cells #[.slice (some ⟨w.heap.size, 0, none⟩) 1 1, .slice (some ⟨w.heap.size + 1, 0, none⟩) 1 1] 84)) w.heap.size (w.heap.size + 2) (w.heap.size + 3)
      (some ⟨w.heap.size, 0, none⟩) 1 1 (some ⟨w.heap.size + 1, 0, none⟩) 1 1 [(none, 0, 0)] [otherL] [[]] ∧
    Below w.heap.size w (((w.alloc (.cells #[.string (bytesOf otherL)] 9)).alloc (.cells #[.slice none 0 0] 111)).alloc (.cells #[.slice (some ⟨w.heap.size, 0, none⟩) 1 1, .slice (some ⟨w.heap.size + 1, 0, none⟩) 1 1] 84)) := by
  have n1 : Own (w.alloc (.cells #[.string (bytesOf otherL)] 9)) w.heap.size 9 1 (some ⟨w.heap.size, 0, none⟩) 1 1 ([otherL].map encNm) := own_one (Nat.le_refl _)
  have s2 : Own ((w.alloc (.cells #[.string (bytesOf otherL)] 9)).alloc (.cells #[.slice none 0 0] 111)) w.heap.size 111 1 (some ⟨w.heap.size + 1, 0, none⟩) 1 1 ([((none : Option Addr), 0, 0)].map encSl) := by
    have := own_one (w := w.alloc (.cells #[.string (bytesOf otherL)] 9)) (t := 111) (u := .slice none 0 0) (base := w.heap.size) (by simp)
    rw [show (w.alloc (.cells #[.string (bytesOf otherL)] 9)).heap.size = w.heap.size + 1 by simp] at this
    exact this
  refine ⟨⟨?_, by omega, (n1.alloc _).alloc _, s2.alloc _, ⟨rfl, ?_⟩, by omega, fun a ha => by injection ha with ha; subst ha; show w.heap.size ≠ w.heap.size + 3; omega, fun a ha => by injection ha with ha; subst ha; show w.heap.size + 1 ≠ w.heap.size + 3; omega⟩, ?_⟩
  · have := Blk.new ((w.alloc (.cells #[.string (bytesOf otherL)] 9)).alloc (.cells #[.slice none 0 0] 111)) 84 #[.slice (some ⟨w.heap.size, 0, none⟩) 1 1, .slice (some ⟨w.heap.size + 1, 0, none⟩) 1 1]
    simpa using this
  · intro k x l hx hl
    match k, hx, hl with
    | 0, hx, hl => simp at hx hl; subst hx; subst hl; exact Own.nil_ _ _ _ _
    | k + 1, hx, hl => simp at hx
  · exact (((Below.refl _ _).alloc (Nat.le_refl _) _).alloc (by simp) _).alloc (by simp; omega) _

set_option maxRecDepth 100000 in
set_option maxHeartbeats 8000000 in
theorem vNew_any (t : List UInt8) (w : World) (ht : t.length ≤ maxLen) :
    Calls Tryz.prog 80 #[.string (bytesOf t)] w fun e w' => RNewEnd (newP t) e w' w.heap.size ∧ Below w.heap.size w w' := by
  have hsz : (bytesOf t).size = t.length := bytesOf_size t
  unfold maxLen at ht
  by_cases hl : 65536 < t.length
  · have HE := Lib.hid (newP_long hl)
    go_enter Tryz.func80, Tryz.ntmps80
    go_wp2
    go_ret3
    exact ⟨RNewEnd.err HE.out, Below.refl _ _⟩
  · have HG := Lib.hid (newP_go hl)
    obtain ⟨hX, hB0⟩ := rfX_first w
    have hw3 : w.heap.size + 3 = (((w.alloc (.cells #[.string (bytesOf otherL)] 9)).alloc (.cells #[.slice none 0 0] 111)).alloc (.cells #[.slice (some ⟨w.heap.size, 0, none⟩) 1 1, .slice (some ⟨w.heap.size + 1, 0, none⟩) 1 1] 84)).heap.size := by simp
    obtain ⟨L, HL⟩ : ∃ L, Hid (splitL t = L) := ⟨_, rfl⟩
    have HLl := Lib.hid (fun i l (h : L[i]? = some l) => line_len (t := t) (i := i) (l := l) (by rw [HL.out]; exact h))
    have HLn : Hid (L.length ≤ 65537) := Lib.hid (by rw [← HL.out, splitL_count]; have := List.count_le_length (a := (10 : UInt8)) (l := t); omega)
    have HNP : Hid (newP t = linesGo DbP.first L 0) := Lib.hid (by rw [HG.out, HL.out])
    have HV := Lib.hid (fun W => vLines_any t W (by omega))
    rw [HL.out] at HV
    go_enter Tryz.func80, Tryz.ntmps80
    go_wp2_with fail
    rw [show (⟨#[79, 116, 104, 101, 114]⟩ : ByteArray) = bytesOf otherL from rfl]
    generalize ((w.alloc (.cells #[.string (bytesOf otherL)] 9)).alloc (.cells #[.slice none 0 0] 111)).alloc (.cells #[.slice (some ⟨w.heap.size, 0, none⟩) 1 1, .slice (some ⟨w.heap.size + 1, 0, none⟩) 1 1] 84) = w3 at hX hB0 hw3 ⊢
    refine (HV.out w3).mono ?_
    rintro e w4 ⟨AL, nL, cL, rfl, hoL, hb4⟩
    have hnL : L.length = nL := by simpa using hoL.len
    have hX4 := hX.below hb4
    have hB4 := below_step hB0 hb4 (by have := hB0.size; omega)
    have HnL := Lib.hid hnL
    have HLne : Hid (L ≠ []) := Lib.hid (by rw [← HL.out]; exact splitL_ne t)
    clear hnL HG HL
    -- the block of the lines, or none
    obtain ⟨x, hxw, hXx, hcells⟩ : ∃ x, x < w4.heap.size ∧ RfX w4 w.heap.size (w.heap.size + 2) x (some ⟨w.heap.size, 0, none⟩) 1 1 (some ⟨w.heap.size + 1, 0, none⟩) 1 1 [(none, 0, 0)] [otherL] [[]] ∧
        (∀ W : World, W.heap[x]? = w4.heap[x]? → ∀ i l, L[i]? = some l → ∃ off, AL = some ⟨x, off, none⟩ ∧ W.cell? ⟨x, off + i, none⟩ = some (.string (bytesOf l))) := by
      have h0 : 0 < nL := by
        cases hq : L with
        | nil => exact absurd hq HLne.out
        | cons a b => rw [← HnL.out, hq]; simp
      obtain ⟨gx, hgx, hg1, hg2⟩ := hoL.form h0
      subst hgx
      refine ⟨gx, hg2, { hX4 with xp := by omega, xn := fun a ha => by injection ha with ha; subst ha; show w.heap.size ≠ gx; omega, xs_ := fun a ha => by injection ha with ha; subst ha; show w.heap.size + 1 ≠ gx; omega }, fun W hW i l hl => ?_⟩
      have h1 := hoL.cell (k := i) (j := 0) (x := encNm l) (u := .string (bytesOf l)) (by rw [List.getElem?_map, hl]; rfl) rfl
      simp only [Nat.mul_one, Nat.add_zero] at h1
      exact ⟨0, rfl, by rw [Nat.zero_add]; exact (World.cell?_of_block hW).trans h1⟩
    have HCells := Lib.hid hcells
    have hsw := hB4.size
    clear hcells hX hX4 hB0 hw3 hb4 hoL
    generalize w.heap.size + 2 = p at hXx ⊢
    go_wp2_with fail
    go_loopw [7] (fun v wr => ∃ (i : Nat) (d : DbP), v = .int .i64 i ∧ i ≤ L.length ∧ RfB wr w.heap.size p x d.names d.sets ∧ wr.heap[x]? = w4.heap[x]? ∧ Hid (NewAt L i d) ∧ Below w.heap.size w wr ∧ x < wr.heap.size) (fun v _ => L.length - (intOf v).toNat)
    case atStart => exact ⟨0, DbP.first, rfl, by omega, ⟨_, _, _, _, _, _, _, hXx⟩, rfl, newAt_first L, hB4, hxw⟩
    case round =>
      clear hXx
      obtain ⟨i, d, rfl, hi, hd, hxr, HN, hb, hxl⟩ := hrel
      have hszr := hb.size
      have hnl := HnL.out
      by_cases hlt : i < L.length
      · obtain ⟨l, Hl⟩ : ∃ l, Hid (L[i]? = some l) := ⟨_, Lib.hid (List.getElem?_eq_getElem hlt)⟩
        obtain ⟨off, rfl, hcell⟩ := HCells.out wr hxr i l Hl.out
        have hll := HLl.out i l Hl.out
        have HN2 := HLn.out
        have HA := Lib.hid (vline_any p w.heap.size x d l wr hd HN.out.2.2.1 hxl hszr (by omega))
        have hltn : i < nL := by omega
        clear hnl
        cases hs : stepL d l with
        | error k =>
          rw [hs] at HA
          have hk0 : ((k : Int) != 0) = true := by rw [bne_iff_ne]; have := step_err hs; omega
          have HE := Lib.hid (HNP.out.trans (newAt_err HN.out Hl.out hs))
          clear hs
          go_wp2_with fail
          refine HA.out.mono ?_
          rintro e w6 ⟨hk, hae⟩
          have he : e = .returned (.int .i64 k) := hae
          subst he
          go_wp2
          go_ret3
          exact ⟨RNewEnd.err HE.out, hb.trans hk.1⟩
        | ok d' =>
          rw [hs] at HA
          have HN' := Lib.hid (newAt_next HN.out Hl.out hs)
          clear hs
          go_wp2_with fail
          refine HA.out.mono ?_
          rintro e w6 ⟨hk, rfl, hd'⟩
          go_wp2
          go_roundw
          case rel => exact ⟨i + 1, d', by go_num, by omega, hd', (hk.2 hxl).trans hxr, HN', hb.trans hk.1, Nat.lt_of_lt_of_le hxl hk.1.size⟩
          case measure => simp [intOf]; omega
      · have HE := Lib.hid (HNP.out.trans (newAt_end HN.out hlt))
        have HC := Lib.hid (vrest_any p w.heap.size x d wr hd HN.out.2.2.1 HN.out.2.2.2 hszr)
        go_wp2_with (go_at_call 121; refine HC.out.mono ?_; rintro e w5 ⟨rfl, hda, hb5⟩)
        go_ret3
        exact ⟨RNewEnd.fine HE.out hda, hb.trans hb5⟩
end Go.Proofs.YthlnfefpdmecaaaGreatDoor

/-
  kerfref14: Db, Named, Trail, walked.
-/
namespace Go.Proofs.YthlnfefpdmecaaaGreatDoor
open Go.RowKit

/-- The name of a rune's class. -/
def nmL (r : Int) : List UInt8 := (linesD.names[gL r]?).getD []
set_option maxRecDepth 100000 in
set_option maxHeartbeats 4000000 in
theorem xDb_any (w : World) :
    Calls Tryz.prog 29 #[] w fun e w' => ∃ p x, e = .returned (.pointer (some ⟨p, 0, none⟩)) ∧ RfB w' w.heap.size p x linesD.names linesD.full ∧ Below w.heap.size w w' := by
  go_enter Tryz.func29, Tryz.ntmps29
  generalize hT : ByteArray.mk _ = T
  have HN : newP T.data.toList = .ok linesD := by rw [← hT]; exact new_K (by kernel_rfl) (by kernel_rfl)
  have hTl : T.data.toList.length ≤ maxLen := by rw [← hT]; exact of_decide_eq_true (by kernel_rfl)
  clear hT
  have HC := vNew_any T.data.toList w hTl
  rw [HN, bytes_is] at HC
  replace HC := Lib.hid HC
  clear HN hTl
  go_wp2_with fail
  refine HC.out.mono ?_
  rintro e w1 ⟨⟨p, x, rfl, hd⟩, hb1⟩
  go_wp2
  go_ret
  exact ⟨p, x, rfl, hd, hb1⟩
theorem names_len : linesD.names.length = 26 := by decide
set_option maxRecDepth 100000 in
set_option maxHeartbeats 4000000 in
theorem xNamed_any (base p x : Nat) (r : Int) (w : World) (h : RfB w base p x linesD.names linesD.full) :
    Calls Tryz.prog 30 #[.pointer (some ⟨p, 0, none⟩), .int .i32 r] w fun e w' => e = .returned (.string (bytesOf (nmL r))) ∧ Below w.heap.size w w' := by
  obtain ⟨An, nn, cn, As, ns, cs, xs, hX⟩ := h.ex
  have hnn : linesD.names.length = nn := hX.lenN
  rw [names_len] at hnn
  subst hnn
  obtain ⟨g, rfl, _, _⟩ := hX.hn.form (by omega)
  have c0 := hX.blk.cell 0
  simp only [List.getElem?_toArray, List.getElem?_cons_zero] at c0
  obtain ⟨k, Hk⟩ : ∃ k, Hid (gL r = k) := ⟨_, Lib.hid rfl⟩
  have hk : k < 26 := by rw [← Hk.out]; exact gL_lt r
  obtain ⟨nm, Hn⟩ : ∃ nm, Hid (linesD.names[k]? = some nm) := ⟨_, Lib.hid (List.getElem?_eq_getElem (by rw [names_len]; exact hk))⟩
  have HV : Hid (nmL r = nm) := Lib.hid (by unfold nmL; rw [Hk.out, Hn.out]; rfl)
  have cn0 := hX.hn.cell (k := k) (j := 0) (x := encNm nm) (u := .string (bytesOf nm)) (by simp [Hn.out]) rfl
  simp only [Nat.mul_one, Nat.add_zero] at cn0
  have HG := Lib.hid (fun W (hW : Below w.heap.size w W) => vGet_any base p x linesD r W (h.below hW) linesOk.1 linesOk.2.1)
  have hgk : linesD.get r = k := Hk.out
  rw [hgk] at HG
  have q1 : (0 : Int) ≤ (k : Int) := by omega
  have q2 : (k : Int) < 26 := by omega
  have q3 : (k : Int) < ((26 : Nat) : Int) := by omega
  clear hgk
  go_enter Tryz.func30, Tryz.ntmps30
  go_wp2_with fail
  go_region_held3 (fun V => V.cell? ⟨p, 0, none⟩ = some (.slice (some ⟨g, 0, none⟩) 26 cn) ∧ V.cell? ⟨g, k, none⟩ = some (.string (bytesOf nm)) ∧ Below w.heap.size w V)
    (first | exact ⟨c0, cn0, Below.refl _ _⟩ | exact ⟨c0, cn0, below_refl_drewN w 1⟩)
    (first
      | (go_at_call 52; go_split_ands; refine (HG.out _ (by assumption)).mono ?_; rintro e wz ⟨rfl, rfl⟩))
  go_wp2
  go_ret
  exact ⟨by rw [HV.out]; rfl, below_refl_drewN w 1⟩

theorem Rd.atRn {w : World} {A : Option Addr} {l : List (Nat × Nat × Nat)} {k : Nat} {x : Nat × Nat × Nat} (h : Rd w 3 A (l.map encRn)) (hk : l[k]? = some x) :
    ∃ b off, A = some ⟨b, off, none⟩ ∧ w.cell? ⟨b, off + k * 3, none⟩ = some (.int .i32 (x.1 : Nat)) ∧ w.cell? ⟨b, off + k * 3 + 1, none⟩ = some (.int .i64 (x.2.1 : Nat)) ∧ w.cell? ⟨b, off + k * 3 + 2, none⟩ = some (.int .i64 (x.2.2 : Nat)) := by
  obtain ⟨b, off, rfl, hc⟩ := h (by intro e; cases l with | nil => simp at hk | cons _ _ => simp at e)
  have h0 := hc k 0 (encRn x) (.int .i32 (x.1 : Nat)) (by simp [hk]) rfl
  have h1 := hc k 1 (encRn x) (.int .i64 (x.2.1 : Nat)) (by simp [hk]) rfl
  have h2 := hc k 2 (encRn x) (.int .i64 (x.2.2 : Nat)) (by simp [hk]) rfl
  exact ⟨b, off, rfl, by simpa using h0, h1, h2⟩
/-- The names of what is not to be seen. -/
theorem bl_names (k : Nat) (nm : List UInt8) (h : linesD.names[k]? = some nm) : lBl (k : Int) = (nm == [83, 112] || nm == [66, 107] || nm == [67, 114] || nm == [76, 102] || nm == [90, 119]) := by
  have hk : k < 26 := by rw [← names_len]; exact (List.getElem?_eq_some_iff.1 h).1
  have : ∀ k : Nat, k < 26 → ∀ nm ∈ linesD.names[k]?, lBl (k : Int) = (nm == [83, 112] || nm == [66, 107] || nm == [67, 114] || nm == [76, 102] || nm == [90, 119]) := by decide
  exact this k hk nm h
end Go.Proofs.YthlnfefpdmecaaaGreatDoor

