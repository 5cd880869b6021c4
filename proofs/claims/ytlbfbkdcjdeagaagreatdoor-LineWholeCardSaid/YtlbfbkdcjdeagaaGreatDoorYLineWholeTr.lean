/-
  kerfref14: Db, Named, Trail, walked.
-/
import Derived.Deep.RegionHeld3
import Derived.Test.YtlbfbkdcjdeagaaGreatDoorYLineWhole1a
import Derived.Test.YtlbfbkdcjdeagaaGreatDoorYLineWhole0c
namespace Go.Proofs.YtlbfbkdcjdeagaaGreatDoor
open Go.RowKit

/-- The name of a rune's class. -/
def nmL (r : Int) : List UInt8 := (linesD.names[gL r]?).getD []
set_option maxRecDepth 100000 in
set_option maxHeartbeats 4000000 in
theorem xDb_any (w : World) :
    Calls Tryz.prog 32 #[] w fun e w' => ∃ p x, e = .returned (.pointer (some ⟨p, 0, none⟩)) ∧ RfB w' w.heap.size p x linesD.names linesD.full ∧ Below w.heap.size w w' := by
  go_enter Tryz.func32, Tryz.ntmps32
  generalize hT : ByteArray.mk _ = T
  have HN : newP T.data.toList = .ok linesD := by rw [← hT]; exact new_K (by kernel_rfl) (by kernel_rfl)
  have hTl : T.data.toList.length ≤ maxLen := by rw [← hT]; exact of_decide_eq_true (by kernel_rfl)
  clear hT
  have HC := vNew_any T.data.toList w hTl
  rw [HN, bytes_is] at HC
  replace HC := Lib.hid HC
  clear HN hTl
  go_wp2_with fail
  refine HC.out.mono ?_
  rintro e w1 ⟨⟨p, x, rfl, hd⟩, hb1⟩
  go_wp2
  go_ret
  exact ⟨p, x, rfl, hd, hb1⟩
theorem names_len : linesD.names.length = 26 := by decide
set_option maxRecDepth 100000 in
set_option maxHeartbeats 4000000 in
theorem xNamed_any (base p x : Nat) (r : Int) (w : World) (h : RfB w base p x linesD.names linesD.full) :
    Calls Tryz.prog 33 #[.pointer (some ⟨p, 0, none⟩), .int .i32 r] w fun e w' => e = .returned (.string (bytesOf (nmL r))) ∧ Below w.heap.size w w' := by
  obtain ⟨An, nn, cn, As, ns, cs, xs, hX⟩ := h.ex
  have hnn : linesD.names.length = nn := hX.lenN
  rw [names_len] at hnn
  subst hnn
  obtain ⟨g, rfl, _, _⟩ := hX.hn.form (by omega)
  have c0 := hX.blk.cell 0
  simp only [List.getElem?_toArray, List.getElem?_cons_zero] at c0
  obtain ⟨k, Hk⟩ : ∃ k, Hid (gL r = k) := ⟨_, Lib.hid rfl⟩
  have hk : k < 26 := by rw [← Hk.out]; exact gL_lt r
  obtain ⟨nm, Hn⟩ : ∃ nm, Hid (linesD.names[k]? = some nm) := ⟨_, Lib.hid (List.getElem?_eq_getElem (by rw [names_len]; exact hk))⟩
  have HV : Hid (nmL r = nm) := Lib.hid (by unfold nmL; rw [Hk.out, Hn.out]; rfl)
  have cn0 := hX.hn.cell (k := k) (j := 0) (x := encNm nm) (u := .string (bytesOf nm)) (by simp [Hn.out]) rfl
  simp only [Nat.mul_one, Nat.add_zero] at cn0
  have HG := Lib.hid (fun W (hW : Below w.heap.size w W) => vGet_any base p x linesD r W (h.below hW) linesOk.1 linesOk.2.1)
  have hgk : linesD.get r = k := Hk.out
  rw [hgk] at HG
  have q1 : (0 : Int) ≤ (k : Int) := by omega
  have q2 : (k : Int) < 26 := by omega
  have q3 : (k : Int) < ((26 : Nat) : Int) := by omega
  clear hgk
  go_enter Tryz.func33, Tryz.ntmps33
  go_wp2_with fail
  go_region_held3 (fun V => V.cell? ⟨p, 0, none⟩ = some (.slice (some ⟨g, 0, none⟩) 26 cn) ∧ V.cell? ⟨g, k, none⟩ = some (.string (bytesOf nm)) ∧ Below w.heap.size w V)
    (first | exact ⟨c0, cn0, Below.refl _ _⟩ | exact ⟨c0, cn0, below_refl_drewN w 1⟩)
    (first
      | (go_at_call 60; go_split_ands; refine (HG.out _ (by assumption)).mono ?_; rintro e wz ⟨rfl, rfl⟩))
  go_wp2
  go_ret
  exact ⟨by rw [HV.out]; rfl, below_refl_drewN w 1⟩

theorem Rd.atRn {w : World} {A : Option Addr} {l : List (Nat × Nat × Nat)} {k : Nat} {x : Nat × Nat × Nat} (h : Rd w 3 A (l.map encRn)) (hk : l[k]? = some x) :
    ∃ b off, A = some ⟨b, off, none⟩ ∧ w.cell? ⟨b, off + k * 3, none⟩ = some (.int .i32 (x.1 : Nat)) ∧ w.cell? ⟨b, off + k * 3 + 1, none⟩ = some (.int .i64 (x.2.1 : Nat)) ∧ w.cell? ⟨b, off + k * 3 + 2, none⟩ = some (.int .i64 (x.2.2 : Nat)) := by
  obtain ⟨b, off, rfl, hc⟩ := h (by intro e; cases l with | nil => simp at hk | cons _ _ => simp at e)
  have h0 := hc k 0 (encRn x) (.int .i32 (x.1 : Nat)) (by simp [hk]) rfl
  have h1 := hc k 1 (encRn x) (.int .i64 (x.2.1 : Nat)) (by simp [hk]) rfl
  have h2 := hc k 2 (encRn x) (.int .i64 (x.2.2 : Nat)) (by simp [hk]) rfl
  exact ⟨b, off, rfl, by simpa using h0, h1, h2⟩
/-- The names of what is not to be seen. -/
theorem bl_names (k : Nat) (nm : List UInt8) (h : linesD.names[k]? = some nm) : lBl (k : Int) = (nm == [83, 112] || nm == [66, 107] || nm == [67, 114] || nm == [76, 102] || nm == [90, 119]) := by
  have hk : k < 26 := by rw [← names_len]; exact (List.getElem?_eq_some_iff.1 h).1
  have : ∀ k : Nat, k < 26 → ∀ nm ∈ linesD.names[k]?, lBl (k : Int) = (nm == [83, 112] || nm == [66, 107] || nm == [67, 114] || nm == [76, 102] || nm == [90, 119]) := by decide
  exact this k hk nm h
set_option maxRecDepth 100000 in
set_option maxHeartbeats 4000000 in
theorem xTrail_any (s : ByteArray) (w : World) (hs : s.size ≤ 1000000) :
    Calls Tryz.prog 31 #[.string s] w fun e w' => e = .returned (.int .i64 (trailP gL s : Nat)) ∧ Below w.heap.size w w' := by
  have H1 := Lib.hid (xDb_any w)
  have H2 := Lib.hid (fun W => sRunes_any s W hs)
  obtain ⟨L, HL⟩ : ∃ L, Hid (runesP s = L) := ⟨_, Lib.hid rfl⟩
  have hLz : L.length ≤ s.size := by rw [← HL.out]; exact runesP_len s
  have HW : Hid (trailP gL s = trR gL L) := Lib.hid (by rw [← HL.out]; rfl)
  go_enter Tryz.func31, Tryz.ntmps31
  go_wp2_with fail
  refine H1.out.mono ?_
  rintro e w1 ⟨p, x, rfl, hd, hb1⟩
  go_wp2_with fail
  refine (H2.out w1).mono ?_
  rw [HL.out]
  rintro e w2 ⟨A, n, c, rfl, ho, hb2⟩
  have hn : L.length = n := by have := ho.len; simpa using this
  have Hn := Lib.hid hn
  have rd := ho.rd (by decide)
  have HD := Lib.hid (hd.below hb2)
  have hb3 := below_two hb1 hb2
  have hsz3 := hb3.size
  clear H1 H2 hd ho hb1
  go_wp2_with fail
  go_loopw [5] (fun v wr => ∃ (k : Nat) (i : Int), v = .int .i64 i ∧ i = (k : Int) - 1 ∧ k ≤ n ∧ Hid (trR gL (L.take k) = trR gL L) ∧ Below w2.heap.size w2 wr) (fun v _ => (intOf v + 1).toNat)
  case atStart => exact ⟨n, _, rfl, by go_num, by omega, Lib.hid (by rw [List.take_of_length_le (by have := Hn.out; omega)]), Below.refl _ _⟩
  case round =>
    obtain ⟨k, i, rfl, hi, hk, HT, hb⟩ := hrel
    have hbb := below_step hb3 hb hsz3
    cases k with
    | zero =>
      have hx1 : i < 0 := by omega
      have hx0 : ¬ 0 ≤ i := by omega
      have HV : Hid (trailP gL s = 0) := Lib.hid (by rw [HW.out, ← HT.out]; rfl)
      clear hi
      go_wp2
      go_ret
      exact ⟨by rw [HV.out]; rfl, hbb⟩
    | succ k =>
      obtain rfl : i = (k : Int) := by omega
      clear hi
      obtain ⟨⟨r, a, b⟩, Hx⟩ : ∃ x, Hid (L[k]? = some x) := ⟨_, Lib.hid (List.getElem?_eq_getElem (by have := Hn.out; omega))⟩
      obtain ⟨bk, off, rfl, c0, c1, c2⟩ := rd.atRn Hx.out
      simp only at c0 c1 c2
      replace c0 := cell_keep c0 hb
      replace c1 := cell_keep c1 hb
      replace c2 := cell_keep c2 hb
      have HN := Lib.hid (xNamed_any w.heap.size p x (r : Int) wr (HD.out.below hb))
      obtain ⟨nm, Hnm⟩ : ∃ nm, Hid (nmL (r : Int) = nm) := ⟨_, Lib.hid rfl⟩
      rw [Hnm.out] at HN
      have HT2 : Hid (trR gL L = if lBl (gL (r : Int)) then trR gL (L.take k) else b) := Lib.hid (by
        rw [← HT.out, List.take_add_one, Hx.out, Option.toList_some, trR_snoc])
      have HBn : Hid (lBl (gL (r : Int)) = (nm == [83, 112] || nm == [66, 107] || nm == [67, 114] || nm == [76, 102] || nm == [90, 119])) := Lib.hid (by
        have hlt : gL (r : Int) < linesD.names.length := by rw [names_len]; exact gL_lt _
        refine bl_names _ _ ?_
        rw [← Hnm.out]
        unfold nmL
        rw [List.getElem?_eq_getElem hlt]; rfl)
      clear HT
      go_wp2_with fail
      refine HN.out.mono ?_
      rintro e w4 ⟨rfl, hb4⟩
      replace c2 := cell_keep c2 hb4
      have hb5 := below_step hb hb4 hb.size
      have HE := Lib.hid (show (bytesOf nm).toList = nm by rw [ByteArray.toList_eq, bytesOf_list])
      by_cases h1 : (bytesOf nm).toList = [83, 112]
      · have HT' : Hid (trR gL (L.take k) = trR gL L) := Lib.hid (by
          rw [HT2.out, HBn.out, ← HE.out, h1]; rfl)
        clear HT2 HBn HE
        go_wp2
        go_roundw
        case rel => exact ⟨k, _, by first | rfl | trivial, by omega, by omega, HT', hb5⟩
        case measure => simp [intOf]
      by_cases h2 : (bytesOf nm).toList = [66, 107]
      · have HT' : Hid (trR gL (L.take k) = trR gL L) := Lib.hid (by
          rw [HT2.out, HBn.out, ← HE.out, h2]; rfl)
        clear HT2 HBn HE
        go_wp2
        go_roundw
        case rel => exact ⟨k, _, by first | rfl | trivial, by omega, by omega, HT', hb5⟩
        case measure => simp [intOf]
      by_cases h3 : (bytesOf nm).toList = [67, 114]
      · have HT' : Hid (trR gL (L.take k) = trR gL L) := Lib.hid (by
          rw [HT2.out, HBn.out, ← HE.out, h3]; rfl)
        clear HT2 HBn HE
        go_wp2
        go_roundw
        case rel => exact ⟨k, _, by first | rfl | trivial, by omega, by omega, HT', hb5⟩
        case measure => simp [intOf]
      by_cases h4 : (bytesOf nm).toList = [76, 102]
      · have HT' : Hid (trR gL (L.take k) = trR gL L) := Lib.hid (by
          rw [HT2.out, HBn.out, ← HE.out, h4]; rfl)
        clear HT2 HBn HE
        go_wp2
        go_roundw
        case rel => exact ⟨k, _, by first | rfl | trivial, by omega, by omega, HT', hb5⟩
        case measure => simp [intOf]
      by_cases h5 : (bytesOf nm).toList = [90, 119]
      · have HT' : Hid (trR gL (L.take k) = trR gL L) := Lib.hid (by
          rw [HT2.out, HBn.out, ← HE.out, h5]; rfl)
        clear HT2 HBn HE
        go_wp2
        go_roundw
        case rel => exact ⟨k, _, by first | rfl | trivial, by omega, by omega, HT', hb5⟩
        case measure => simp [intOf]
      have HV : Hid (trailP gL s = b) := Lib.hid (by
        rw [HE.out] at h1 h2 h3 h4 h5
        rw [HW.out, HT2.out, HBn.out]
        simp [h1, h2, h3, h4, h5])
      have g1 : ((bytesOf nm).toList == [83, 112]) = false := beq_eq_false_iff_ne.2 h1
      have g2 : ((bytesOf nm).toList == [66, 107]) = false := beq_eq_false_iff_ne.2 h2
      have g3 : ((bytesOf nm).toList == [67, 114]) = false := beq_eq_false_iff_ne.2 h3
      have g4 : ((bytesOf nm).toList == [76, 102]) = false := beq_eq_false_iff_ne.2 h4
      have g5 : ((bytesOf nm).toList == [90, 119]) = false := beq_eq_false_iff_ne.2 h5
      clear h1 h2 h3 h4 h5
      clear HT2 HBn HE
      go_wp2
      go_ret
      exact ⟨by rw [HV.out]; rfl, below_step hb3 hb5 hsz3⟩
end Go.Proofs.YtlbfbkdcjdeagaaGreatDoor

