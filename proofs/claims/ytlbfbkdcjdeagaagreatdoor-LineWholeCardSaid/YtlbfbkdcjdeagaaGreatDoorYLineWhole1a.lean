/-
  line: what is to be seen of a text: plain; utf.Last and line.Trail, walked.
-/
import Derived.WalkMore
import Derived.Test.YtlbfbkdcjdeagaaGreatDoorYLineWholeTd
import Derived.Test.YtlbfbkdcjdeagaaGreatDoorZShelf
import Derived.Test.YtlbfbkdcjdeagaaGreatDoorYLineWhole0b
import Derived.Test.YtlbfbkdcjdeagaaGreatDoorYLineWhole0a
import Derived.Test.YtlbfbkdcjdeagaaGreatDoorZRdr
namespace Go.Proofs.YtlbfbkdcjdeagaaGreatDoor
open Go.RowKit

def lBl (c : Int) : Bool := c == 4 || c == 1 || c == 2 || c == 3 || c == 5
/-- The end of the last that is no blank. -/
def trR (g : Int → Nat) (l : List (Nat × Nat × Nat)) : Nat := (((l.reverse.dropWhile fun x => lBl (g (x.1 : Int))).head?).map (·.2.2)).getD 0
def trailP (g : Int → Nat) (s : ByteArray) : Nat := trR g (runesP s)
theorem trR_snoc (g : Int → Nat) (l : List (Nat × Nat × Nat)) (x : Nat × Nat × Nat) : trR g (l ++ [x]) = if lBl (g (x.1 : Int)) then trR g l else x.2.2 := by
  unfold trR
  rw [List.reverse_append, List.reverse_singleton, List.singleton_append, List.dropWhile_cons]
  split <;> rfl
theorem takeWhile_snoc {l : List (Nat × Nat × Nat)} {x : Nat × Nat × Nat} (h : (l ++ [x]).Pairwise fun a b => a.2.1 < b.2.1) : (l ++ [x]).takeWhile (fun y => decide (y.2.1 < x.2.1)) = l := by
  rw [List.pairwise_append] at h
  rw [List.takeWhile_append_of_pos fun a ha => decide_eq_true (h.2.2 a ha x (by simp))]
  simp
theorem contig_last : ∀ {l : List (Nat × Nat × Nat)} {a z : Nat} {x : Nat × Nat × Nat}, Contig a (l ++ [x]) z → x.2.2 = z
  | [], _, _, _, h => h.2.2
  | _ :: l, _, _, _, h => contig_last (l := l) h.2.2
theorem trail_empty {g : Int → Nat} {t : ByteArray} (h : ¬ 0 < t.size) : trailP g t = t.size := by
  have : runesP t = [] := by unfold runesP; rw [show t.size = 0 by omega]; rfl
  unfold trailP
  rw [this, show t.size = 0 by omega]; rfl
/-- One rune off the end. -/
theorem trail_step (g : Int → Nat) (t : ByteArray) (h : 0 < t.size) : ∃ r w : Nat, Lib.decodeLastL t.data.toList = (r, w) ∧ 1 ≤ w ∧ w ≤ t.size ∧ trailP g t = if lBl (g (r : Int)) then trailP g (t.extract 0 (t.size - w)) else t.size := by
  have hne : runesP t ≠ [] := fun e => by
    obtain ⟨k, hk, e2⟩ := runesGo_step (s := t) (f := t.size) (a := 0) h (by omega)
    unfold runesP at e
    rw [e] at e2
    cases e2
  rcases List.eq_nil_or_concat (runesP t) with e | ⟨l, x, e⟩
  · exact absurd e hne
  · rw [List.concat_eq_append] at e
    have hx : x ∈ runesP t := by rw [e]; simp
    have hend : x.2.2 = t.size := by
      have hc := runesP_contig t
      rw [e] at hc
      exact contig_last hc
    have hb := runesP_bd x hx
    have hr := runes_rise' t
    have hp := runesP_prefix t (z := x.2.1) (by omega) (.inr (.inr ⟨x, hx, rfl⟩))
    rw [e] at hr hp
    rw [takeWhile_snoc hr] at hp
    refine ⟨x.1, x.2.2 - x.2.1, last_rune t hx hend, by omega, by omega, ?_⟩
    rw [show t.size - (x.2.2 - x.2.1) = x.2.1 by omega]
    unfold trailP
    rw [hp, e, trR_snoc, hend]
set_option maxHeartbeats 1000000 in
theorem eLast_any (s : ByteArray) (w : World) (hT : Tabs w) (h0 : 0 < s.size) (hs : s.size ≤ 1000000) :
    Calls Tryz.prog 69 #[.string s] w fun e w' => e = .returned (.tuple #[.int .i32 (Lib.decodeLastL s.data.toList).1, .int .i64 (Lib.decodeLastL s.data.toList).2]) ∧ Below w.heap.size w w' := by
  have HC := Lib.hid (Tryz.utf8_DecodeLastRuneInString s w (by omega) hT)
  have hem : s.toList.isEmpty = false := by
    rw [ByteArray.toList_eq]
    cases hq : s.data.toList with
    | nil => rw [← size_data, hq] at h0; simp at h0
    | cons a b => rfl
  obtain ⟨r, hr⟩ : ∃ r, Lib.decodeLastL s.data.toList = r := ⟨_, rfl⟩
  rw [hr] at HC ⊢
  clear hr
  go_enter Tryz.func69, Tryz.ntmps69
  go_wp2_with fail
  refine HC.out.mono ?_
  rintro e w1 ⟨rfl, hb⟩
  go_wp2
  go_ret2
  exact ⟨rfl, hb⟩

def txtSize : Value → Nat
  | .string t => t.size
  | _ => 0
set_option maxRecDepth 100000 in
set_option maxHeartbeats 8000000 in
theorem tTrail_any (s : ByteArray) (w : World) (hE : Env w) (hs : s.size ≤ 1000000) :
    Calls Tryz.prog 30 #[.string s] w fun e w' => e = .returned (.int .i64 (trailP gL s : Nat)) ∧ Below w.heap.size w w' := by
  go_enter Tryz.func30, Tryz.ntmps30
  generalize hT : ByteArray.mk _ = T
  have HN : newP T.data.toList = .ok linesD := by rw [← hT]; exact new_K (by kernel_rfl) (by kernel_rfl)
  have hTl : T.data.toList.length ≤ maxLen := by rw [← hT]; exact of_decide_eq_true (by kernel_rfl)
  clear hT
  have HC := wNew_any T.data.toList _ hE hTl
  rw [HN, bytes_is] at HC
  replace HC := Lib.hid HC
  clear HN hTl
  go_wp2_with fail
  go_step3
  go_wp2_with fail
  refine HC.out.mono ?_
  rintro e w1 ⟨⟨p, rfl, hd⟩, hb1⟩
  clear HC
  have HE1 := Lib.hid (hE.below hb1)
  have HD := Lib.hid hd
  clear hd hE
  have hsz1 := hb1.size
  go_wp2_with fail
  go_step3
  go_wp2_with fail
  go_loopw [0] (fun v wr => ∃ t : ByteArray, v = .string t ∧ t.size ≤ s.size ∧ Hid (trailP gL t = trailP gL s) ∧ Below w1.heap.size w1 wr) (fun v _ => txtSize v)
  case atStart => exact ⟨s, rfl, Nat.le_refl _, Lib.hid rfl, Below.refl _ _⟩
  case round =>
    obtain ⟨t, rfl, ht, HTr, hb⟩ := hrel
    have hbb := below_step hb1 hb hsz1
    by_cases h0 : 0 < t.size
    · obtain ⟨r, wd, hdl, h1, h2, hst⟩ := trail_step gL t h0
      have HL := Lib.hid (eLast_any t wr ((HE1.out.below hb).tabs) h0 (by omega))
      rw [hdl] at HL
      have HG := Lib.hid (fun W (h : Below w1.heap.size w1 W) => wGet_any p linesD r W (HD.out.below h) linesOk.1 linesOk.2.1)
      obtain ⟨c, Hc⟩ : ∃ c, Hid (linesD.get (r : Int) = c) := ⟨_, Lib.hid rfl⟩
      have HS := Lib.hid hst
      have hgc : gL (r : Int) = c := Hc.out
      rw [hgc] at HS
      rw [Hc.out] at HG
      clear hst hdl hgc
      have e1 : (t.size : Int) - (wd : Int) = ((t.size - wd : Nat) : Int) := by omega
      have e2 : t.size - wd ≤ t.size := by omega
      have e3 : ((t.size - wd : Nat) : Int) ≤ (t.size : Int) := by omega
      have hsm : (t.extract 0 (t.size - wd)).size = t.size - wd := by rw [ByteArray.size_extract]; omega
      cases h4 : (((c : Nat) : Int) == 4) with
      | true =>
        have HT' : Hid (trailP gL (t.extract 0 (t.size - wd)) = trailP gL s) := Lib.hid (by rw [← HTr.out, HS.out, if_pos (by unfold lBl; rw [h4]; simp)])
        go_wp2_with fail
        refine HL.out.mono ?_
        rintro e w4 ⟨rfl, hb4⟩
        have hb4' := below_step hb hb4 hb.size
        go_wp2_with fail
        refine (HG.out _ hb4').mono ?_
        rintro e w5 ⟨rfl, hb5⟩
        have hb5' := below_step hb4' hb5 hb4'.size
        replace hb5 := hb4.trans (hb5.mono hb4.size)
        go_wp2
        go_roundw
        case rel => exact ⟨t.extract 0 (t.size - wd), by first | rfl | trivial, by rw [hsm]; omega, HT', hb5'⟩
        case measure => simp only [txtSize, hsm]; omega
      | false =>
        cases h5 : (((c : Nat) : Int) == 1) with
        | true =>
          have HT' : Hid (trailP gL (t.extract 0 (t.size - wd)) = trailP gL s) := Lib.hid (by rw [← HTr.out, HS.out, if_pos (by unfold lBl; rw [h5]; simp)])
          go_wp2_with fail
          refine HL.out.mono ?_
          rintro e w4 ⟨rfl, hb4⟩
          have hb4' := below_step hb hb4 hb.size
          go_wp2_with fail
          refine (HG.out _ hb4').mono ?_
          rintro e w5 ⟨rfl, hb5⟩
          have hb5' := below_step hb4' hb5 hb4'.size
          replace hb5 := hb4.trans (hb5.mono hb4.size)
          go_wp2
          go_roundw
          case rel => exact ⟨t.extract 0 (t.size - wd), by first | rfl | trivial, by rw [hsm]; omega, HT', hb5'⟩
          case measure => simp only [txtSize, hsm]; omega
        | false =>
          cases h6 : (((c : Nat) : Int) == 2) with
          | true =>
            have HT' : Hid (trailP gL (t.extract 0 (t.size - wd)) = trailP gL s) := Lib.hid (by rw [← HTr.out, HS.out, if_pos (by unfold lBl; rw [h6]; simp)])
            go_wp2_with fail
            refine HL.out.mono ?_
            rintro e w4 ⟨rfl, hb4⟩
            have hb4' := below_step hb hb4 hb.size
            go_wp2_with fail
            refine (HG.out _ hb4').mono ?_
            rintro e w5 ⟨rfl, hb5⟩
            have hb5' := below_step hb4' hb5 hb4'.size
            replace hb5 := hb4.trans (hb5.mono hb4.size)
            go_wp2
            go_roundw
            case rel => exact ⟨t.extract 0 (t.size - wd), by first | rfl | trivial, by rw [hsm]; omega, HT', hb5'⟩
            case measure => simp only [txtSize, hsm]; omega
          | false =>
            cases h7 : (((c : Nat) : Int) == 3) with
            | true =>
              have HT' : Hid (trailP gL (t.extract 0 (t.size - wd)) = trailP gL s) := Lib.hid (by rw [← HTr.out, HS.out, if_pos (by unfold lBl; rw [h7]; simp)])
              go_wp2_with fail
              refine HL.out.mono ?_
              rintro e w4 ⟨rfl, hb4⟩
              have hb4' := below_step hb hb4 hb.size
              go_wp2_with fail
              refine (HG.out _ hb4').mono ?_
              rintro e w5 ⟨rfl, hb5⟩
              have hb5' := below_step hb4' hb5 hb4'.size
              replace hb5 := hb4.trans (hb5.mono hb4.size)
              go_wp2
              go_roundw
              case rel => exact ⟨t.extract 0 (t.size - wd), by first | rfl | trivial, by rw [hsm]; omega, HT', hb5'⟩
              case measure => simp only [txtSize, hsm]; omega
            | false =>
              cases h8 : (((c : Nat) : Int) == 5) with
              | true =>
                have HT' : Hid (trailP gL (t.extract 0 (t.size - wd)) = trailP gL s) := Lib.hid (by rw [← HTr.out, HS.out, if_pos (by unfold lBl; rw [h8]; simp)])
                go_wp2_with fail
                refine HL.out.mono ?_
                rintro e w4 ⟨rfl, hb4⟩
                have hb4' := below_step hb hb4 hb.size
                go_wp2_with fail
                refine (HG.out _ hb4').mono ?_
                rintro e w5 ⟨rfl, hb5⟩
                have hb5' := below_step hb4' hb5 hb4'.size
                replace hb5 := hb4.trans (hb5.mono hb4.size)
                go_wp2
                go_roundw
                case rel => exact ⟨t.extract 0 (t.size - wd), by first | rfl | trivial, by rw [hsm]; omega, HT', hb5'⟩
                case measure => simp only [txtSize, hsm]; omega
              | false =>
                have HV : Hid (trailP gL s = t.size) := Lib.hid (by rw [← HTr.out, HS.out, if_neg (by unfold lBl; rw [h4, h5, h6, h7, h8]; simp)])
                go_wp2_with fail
                refine HL.out.mono ?_
                rintro e w4 ⟨rfl, hb4⟩
                have hb4' := below_step hb hb4 hb.size
                go_wp2_with fail
                refine (HG.out _ hb4').mono ?_
                rintro e w5 ⟨rfl, hb5⟩
                have hb5' := below_step hb4' hb5 hb4'.size
                replace hb5 := hb4.trans (hb5.mono hb4.size)
                go_wp2
                try rw [Exit.noGoto_ret]
                go_ret
                exact ⟨by rw [HV.out]; rfl, below_step hbb hb5 hbb.size⟩
    · have HV : Hid (trailP gL s = t.size) := Lib.hid (by rw [← HTr.out, trail_empty h0])
      have h0' : ¬ (0 : Int) < (t.size : Int) := by omega
      go_wp2
      try rw [Exit.noGoto_ret]
      go_ret
      exact ⟨by rw [HV.out]; rfl, hbb⟩
end Go.Proofs.YtlbfbkdcjdeagaaGreatDoor

