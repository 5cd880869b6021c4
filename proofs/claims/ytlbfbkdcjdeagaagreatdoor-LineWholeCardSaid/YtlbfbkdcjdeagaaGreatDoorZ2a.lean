/-
  Several texts in one, in their build order: Wd, RunB.
-/
import Derived.Shelf.Strings.SlTrimAscii
import Derived.Deep.DeepMust
import Derived.Test.YtlbfbkdcjdeagaaGreatDoorZ1a
import Derived.Test.YtlbfbkdcjdeagaaGreatDoorZRdr
import Derived.Test.YtlbfbkdcjdeagaaGreatDoorZRunA
/-
  props: quoted, find, line, walked; the library's Trim of blanks.
-/
namespace Go.Proofs.YtlbfbkdcjdeagaaGreatDoor
open Go.RowKit

theorem rest_drop (s : ByteArray) (a : Nat) : (s.extract a s.size).data.toList = s.data.toList.drop a := rest_extract s a
theorem take_extract (s : ByteArray) (a : Nat) : (s.extract 0 a).data.toList = s.data.toList.take a := by rw [Lib.extract_data]; simp
theorem empty_of {s : ByteArray} (h : s.size = 0) : s = ⟨#[]⟩ := by
  apply ByteArray.ext
  exact Array.eq_empty_of_size_eq_zero h
theorem ne_empty {s : ByteArray} (h : 0 < s.size) : ¬ s = ⟨#[]⟩ := fun e => by subst e; exact absurd h (by decide)
theorem get_list {s : ByteArray} {p : Nat} (h : p < s.size) : s.data.toList[p]? = some (s[p]'h) := List.getElem?_eq_getElem (by simpa using h)

set_option maxRecDepth 100000 in
set_option maxHeartbeats 1000000 in
theorem wquoted_any (s : ByteArray) (w : World) (hT : Tabs w) (hs : s.size ≤ 1000000) :
    Calls Tryz.prog 160 #[.string s] w fun e w' => e = .returned (.int .i64 ((qtL s.data.toList).getD 0 : Nat)) ∧ Below w.heap.size w w' := by
  rcases Nat.eq_zero_or_pos s.size with h0 | h0
  · obtain rfl := empty_of h0
    go_enter Tryz.func160, Tryz.ntmps160
    go_wp2
    go_ret
    exact ⟨rfl, Below.refl _ _⟩
  · have e0 := notEmpty h0
    have hix := index_at s 0 0 rfl h0
    by_cases hq : s[0]'h0 = 39
    · have HD := Lib.hid (lDecode_any s 1 w hT (by omega))
      obtain ⟨hb1, hb2, hb3⟩ := runeAt_bd s 1 (by omega)
      have HN := Lib.hid (@qt_zero s)
      have HO := Lib.hid (@qt_open s)
      have HG := Lib.hid (@qt_ok s h0 hq)
      generalize (runeAt s 1).2 = n at HD HN HO HG hb1 hb2
      generalize (runeAt s 1).1 = r at HD hb3
      have hq0 : (((s[0]'h0).toNat : Int) != 39) = false := by rw [hq]; rfl
      rcases Nat.eq_zero_or_pos n with hn | hn
      · have HE := Lib.hid (HN.out hn)
        subst hn
        go_enter Tryz.func160, Tryz.ntmps160
        go_wp2_with (go_at_call 118; refine HD.out.mono ?_; rintro e w2 ⟨rfl, hbw⟩)
        go_ret
        exact ⟨by rw [HE.out]; rfl, hbw⟩
      · have hn0 : ((n : Int) == 0) = false := beq_eq_false_iff_ne.2 (by omega)
        by_cases hp : n + 1 < s.size
        · have hix2 := index_at s ((n : Int) + 1) (n + 1) (by omega) hp
          have hd : decide ((s.size : Int) < (n : Int) + 2) = false := decide_eq_false (by omega)
          by_cases hq2 : s[n + 1]'hp = 39
          · have HE := Lib.hid (HG.out (by omega) (by rw [get_list hp, hq2]))
            have hq3 : (((s[n + 1]'hp).toNat : Int) != 39) = false := by rw [hq2]; rfl
            go_enter Tryz.func160, Tryz.ntmps160
            go_wp2_with (go_at_call 118; refine HD.out.mono ?_; rintro e w2 ⟨rfl, hbw⟩)
            go_ret
            exact ⟨by rw [HE.out]; rfl, hbw⟩
          · have HE := Lib.hid (HO.out (by rw [get_list hp]; simpa using hq2))
            have hq3 : (((s[n + 1]'hp).toNat : Int) != 39) = true := by
              rw [bne_iff_ne]; intro e
              exact hq2 (UInt8.toNat_inj.1 (by have : (s[n + 1]'hp).toNat = 39 := by omega
                                               rw [this]; rfl))
            go_enter Tryz.func160, Tryz.ntmps160
            go_wp2_with (go_at_call 118; refine HD.out.mono ?_; rintro e w2 ⟨rfl, hbw⟩)
            go_ret
            exact ⟨by rw [HE.out]; rfl, hbw⟩
        · have hd : decide ((s.size : Int) < (n : Int) + 2) = true := decide_eq_true (by omega)
          have HE := Lib.hid (HO.out (by rw [List.getElem?_eq_none (by rw [size_data]; omega)]; simp))
          go_enter Tryz.func160, Tryz.ntmps160
          go_wp2_with (go_at_call 118; refine HD.out.mono ?_; rintro e w2 ⟨rfl, hbw⟩)
          go_ret
          exact ⟨by rw [HE.out]; rfl, hbw⟩
    · have HE := Lib.hid (qt_no (s := s) (fun _ => hq))
      have hq3 : (((s[0]'h0).toNat : Int) != 39) = true := by
        rw [bne_iff_ne]; intro e
        exact hq (UInt8.toNat_inj.1 (by have : (s[0]'h0).toNat = 39 := by omega
                                        rw [this]; rfl))
      go_enter Tryz.func160, Tryz.ntmps160
      go_wp2
      go_ret
      exact ⟨by rw [HE.out]; rfl, Below.refl _ _⟩

set_option maxRecDepth 100000 in
set_option maxHeartbeats 1000000 in
theorem wfind_any (s : ByteArray) (c : UInt8) (z : Int) (hz : z = (c.toNat : Int)) (w : World) (hT : Tabs w) (hs : s.size ≤ 1000000) :
    Calls Tryz.prog 134 #[.string s, .int .u8 z] w fun e w' => e = .returned (.int .i64 (fv (findP c s.data.toList))) ∧ Below w.heap.size w w' := by
  have hsz : s.data.toList.length = s.size := size_data s
  have Hsz := Lib.hid hsz
  have Hz := Lib.hid hz
  clear hz
  go_enter Tryz.func134, Tryz.ntmps134
  go_wp2
  go_loopw [5] (fun v wr => ∃ i : Nat, v = .int .i64 i ∧ i ≤ s.size ∧ Hid (FindAt c s.data.toList i) ∧ Below w.heap.size w wr) (fun v _ => s.size - (intOf v).toNat)
  case atStart => exact ⟨0, rfl, by omega, findAt_first _ _, Below.refl _ _⟩
  case round =>
    obtain ⟨i, rfl, hi, HF, hb⟩ := hrel
    by_cases hlt : i < s.size
    · have HQ := Lib.hid (wquoted_any (s.extract i s.size) wr (hT.below hb) (by rw [ByteArray.size_extract]; omega))
      rw [rest_drop] at HQ
      have hix := index_at s i i rfl hlt
      cases hq : qtL (s.data.toList.drop i) with
      | some k =>
        rw [hq] at HQ
        have hk := qtL_some hq
        have hk3 := hk.1
        have hkl : i + k ≤ s.size := by have := hk.2.2.1; rw [List.length_drop, Hsz.out] at this; omega
        have HF' := Lib.hid (findAt_qt HF.out hq)
        have Hq := Lib.hid hq
        clear hk hq
        go_wp2_with (go_at_call 160; refine HQ.out.mono ?_; rw [Option.getD_some]; rintro e w2 ⟨rfl, hb2⟩)
        go_roundw
        case rel =>
          exact ⟨i + k, by go_num, hkl, HF', below_step hb hb2 hb.size⟩
        case measure => simp [intOf]; omega
      | none =>
        rw [hq] at HQ
        by_cases hc : s[i]'hlt = c
        · have HE := Lib.hid (findAt_hit HF.out (by rw [get_list hlt, hc]) hq)
          have hzz : (((s[i]'hlt).toNat : Int) == z) = true := by rw [hc, Hz.out]; simp
          clear hq hc
          go_wp2_with (go_at_call 160; refine HQ.out.mono ?_; rw [Option.getD_none]; rintro e w2 ⟨rfl, hb2⟩)
          go_ret
          exact ⟨by rw [HE.out]; rfl, below_step hb hb2 hb.size⟩
        · have HF' := Lib.hid (findAt_byte HF.out (get_list hlt) hq hc)
          have hzz : (((s[i]'hlt).toNat : Int) == z) = false := beq_eq_false_iff_ne.2 (fun e => hc (UInt8.toNat_inj.1 (by have := Hz.out; omega)))
          clear hq
          go_wp2_with (go_at_call 160; refine HQ.out.mono ?_; rw [Option.getD_none]; rintro e w2 ⟨rfl, hb2⟩)
          go_roundw
          case rel =>
            exact ⟨i + 1, by go_num, by omega, HF', below_step hb hb2 hb.size⟩
          case measure => simp [intOf]; omega
    · have HE := Lib.hid (findAt_end HF.out (by rw [Hsz.out]; exact hlt))
      go_wp2
      go_ret
      exact ⟨by rw [HE.out]; rfl, hb⟩

theorem zero256 : ∀ w, (zeroValue 157).run Tryz.prog w = .ok (.agg (Array.replicate 256 (.bool false))) w := by intro w; kernel_rfl
theorem size256 : (Tryz.prog.info? 157).map (·.size) = some 256 := by kernel_rfl
theorem lTrim_any (s : ByteArray) (w : World) (hs : s.size ≤ 1000000) :
    Calls Tryz.prog 135 #[.string s, .string ⟨#[32, 9]⟩] w fun e w' => e = .returned (.string (bytesOf (trimL s.data.toList))) ∧ Below w.heap.size w w' := by
  rcases Nat.eq_zero_or_pos s.size with h0 | h0
  · have h := Any.strings_Trim_empty Tryz.lays160 s ⟨#[32, 9]⟩ w (.inl h0)
    obtain rfl := empty_of h0
    refine h.mono ?_
    rintro e w' ⟨rfl, rfl⟩
    exact ⟨rfl, Below.refl _ _⟩
  · have h := Any.strings_Trim_set Tryz.lays160 zero256 size256 s ⟨#[32, 9]⟩ w (show 2 ≤ 2 by omega) h0 (by omega) (show 2 < 4294967281 by omega) (fun j b hj => by
      match j, hj with
      | 0, hj => simp at hj; subst hj; decide
      | 1, hj => simp at hj; subst hj; decide
      | j + 2, hj => simp at hj)
    refine h.mono ?_
    rintro e w' ⟨rfl, q, rfl⟩
    refine ⟨?_, below_drewN (((Below.refl _ _).alloc (Nat.le_refl _) _).alloc (by simp) _) _⟩
    rw [show (ByteArray.mk #[32, 9]).data.toList = [32, 9] from rfl, trimS_eq]; rfl

set_option maxRecDepth 100000 in
set_option maxHeartbeats 1000000 in
theorem wline_any (s : ByteArray) (w : World) (hT : Tabs w) (hs : s.size ≤ 1000000) :
    Calls Tryz.prog 100 #[.string s] w fun e w' => e = .returned (.string (bytesOf (lineU s.data.toList))) ∧ Below w.heap.size w w' := by
  have HF := Lib.hid (wfind_any s 35 35 rfl w hT hs)
  have hlt := fun i h => (List.getElem?_eq_some_iff.1 (findP_lt (c := 35) _ s.data.toList (Nat.le_refl _) i h)).1
  rw [size_data] at hlt
  have HU : Hid (lineU s.data.toList = trimL (s.data.toList.take ((findP 35 s.data.toList).getD s.data.toList.length))) := rfl
  cases hq : findP 35 s.data.toList with
  | none =>
    rw [hq] at HF HU
    rw [Option.getD_none, List.take_length] at HU
    clear hq hlt
    go_enter Tryz.func100, Tryz.ntmps100
    go_wp2_with (first | (go_at_call 134; refine HF.out.mono ?_; rw [show fv none = -1 from rfl]; rintro e w2 ⟨rfl, hb2⟩) | (go_at_call 135; refine (lTrim_any s _ hs).mono ?_; rintro e w3 ⟨rfl, hb3⟩))
    go_ret
    exact ⟨by rw [HU.out]; rfl, below_two hb2 hb3⟩
  | some i =>
    have hi := hlt i hq
    rw [hq] at HF HU
    rw [Option.getD_some, ← take_extract] at HU
    clear hq hlt
    go_enter Tryz.func100, Tryz.ntmps100
    go_wp2_with (first | (go_at_call 134; refine HF.out.mono ?_; rw [show fv (some i) = (i : Int) from rfl]; rintro e w2 ⟨rfl, hb2⟩) | (go_at_call 135; refine (lTrim_any (s.extract 0 i) _ (by rw [ByteArray.size_extract]; omega)).mono ?_; rintro e w3 ⟨rfl, hb3⟩))
    go_ret
    exact ⟨by rw [HU.out, take_extract]; rfl, below_two hb2 hb3⟩
end Go.Proofs.YtlbfbkdcjdeagaaGreatDoor

/-
  slices.Equal, IndexFunc, ContainsFunc as runes calls them; runes.Is, Has.
-/
namespace Go.Proofs.YtlbfbkdcjdeagaaGreatDoor
open Go.RowKit
attribute [local go_sem ↓] neqR eqlR

theorem memR_take_succ {l : List (Int × Int)} {k : Nat} {x : Int × Int} (h : l[k]? = some x) (r : Int) : memR (l.take (k + 1)) r ↔ memR (l.take k) r ∨ (x.1 ≤ r ∧ r ≤ x.2) := by
  rw [List.take_add_one, h, memR_append, Option.toList_some, memR_cons]; simp [memR_nil]

end Go.Proofs.YtlbfbkdcjdeagaaGreatDoor

