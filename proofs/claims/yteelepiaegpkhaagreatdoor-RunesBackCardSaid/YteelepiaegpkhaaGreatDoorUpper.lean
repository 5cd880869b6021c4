/-
  strings.ToUpper of a text of ASCII bytes.
-/
import Derived.Test.YteelepiaegpkhaaGreatDoorGrow
import Derived.Test.YteelepiaegpkhaaGreatDoorPar
namespace Go.Proofs.YteelepiaegpkhaaGreatDoor
open Go.RowKit

def upB (c : UInt8) : UInt8 := if 97 ≤ c.toNat ∧ c.toNat ≤ 122 then c - 32 else c
def lowP (c : UInt8) : Prop := 97 ≤ c.toNat ∧ c.toNat ≤ 122
theorem upB_low {c : UInt8} (h : lowP c) : upB c = c - 32 := if_pos h
theorem upB_not {c : UInt8} (h : ¬ lowP c) : upB c = c := if_neg h
theorem upB_nat {c : UInt8} (h : lowP c) : ((c - 32 : UInt8).toNat : Int) = (c.toNat : Int) - 32 := by
  have h1 : (32 : UInt8) ≤ c := by rw [UInt8.le_iff_toNat_le]; have := h.1; show 32 ≤ c.toNat; omega
  rw [UInt8.toNat_sub_of_le _ _ h1]
  have := h.1
  show ((c.toNat - 32 : Nat) : Int) = _
  omega
/-- How far the upper-case text has come. -/
def UpAt (s : ByteArray) (i p : Nat) (l : List UInt8) : Prop := p ≤ i ∧ i ≤ s.size ∧ l = (s.data.toList.take p).map upB ∧ ∀ k c, p ≤ k → k < i → s.data.toList[k]? = some c → ¬ lowP c
theorem map_not {l : List UInt8} (h : ∀ c ∈ l, ¬ lowP c) : l.map upB = l := by
  induction l with
  | nil => rfl
  | cons c l ih => rw [List.map_cons, upB_not (h c (by simp)), ih (fun d hd => h d (by simp [hd]))]
theorem upAt_seg {s : ByteArray} {i p : Nat} {l : List UInt8} (h : UpAt s i p l) : l ++ (s.extract p i).data.toList = (s.data.toList.take i).map upB := by
  obtain ⟨h1, h2, rfl, h4⟩ := h
  have e : s.data.toList.take i = s.data.toList.take p ++ (s.extract p i).data.toList := by
    rw [Lib.extract_data, ← List.drop_take]
    have := (List.take_append_drop p (s.data.toList.take i)).symm
    rw [List.take_take, Nat.min_eq_left h1] at this
    exact this
  rw [e, List.map_append, map_not (l := (s.extract p i).data.toList)]
  intro c hc
  obtain ⟨k, hk, hkc⟩ := List.getElem_of_mem hc
  have hk' : (s.extract p i).data.toList[k]? = some c := by rw [List.getElem?_eq_getElem hk, hkc]
  rw [Lib.extract_data] at hk'
  have hlt : k < i - p := by
    have := (List.getElem?_eq_some_iff.1 hk').1
    rw [List.length_take] at this; omega
  rw [List.getElem?_take_of_lt hlt, List.getElem?_drop] at hk'
  exact h4 (p + k) c (by omega) (by omega) hk'
theorem upAt_skip {s : ByteArray} {i p : Nat} {l : List UInt8} {c : UInt8} (h : UpAt s i p l) (hi : i < s.size) (hc : s.data.toList[i]? = some c) (hn : ¬ lowP c) : UpAt s (i + 1) p l :=
  ⟨by have := h.1; omega, by omega, h.2.2.1, fun k d hk hk2 hd => by
    rcases Nat.lt_or_ge k i with hlt | hge
    · exact h.2.2.2 k d hk hlt hd
    · obtain rfl : k = i := by omega
      rw [hc] at hd; cases hd; exact hn⟩
theorem upAt_put {s : ByteArray} {i p : Nat} {l : List UInt8} {c : UInt8} (h : UpAt s i p l) (hi : i < s.size) (hc : s.data.toList[i]? = some c) (hn : lowP c) : UpAt s (i + 1) (i + 1) (l ++ (s.extract p i).data.toList ++ [c - 32]) :=
  ⟨by omega, by omega, by rw [upAt_seg h, List.take_add_one, hc, Option.toList_some, List.map_append, List.map_singleton, upB_low hn], fun k d hk hk2 _ => by omega⟩
theorem upAt_len {s : ByteArray} {i p : Nat} {l : List UInt8} (h : UpAt s i p l) : l.length = p := by
  have h1 := h.1; have h2 := h.2.1
  rw [h.2.2.1, List.length_map, List.length_take, size_data]; omega

set_option maxRecDepth 100000 in
set_option maxHeartbeats 2000000 in
theorem lToUpper_any (s : ByteArray) (w : World) (hs : s.size ≤ 1000000) (ha : ∀ c ∈ s.data.toList, c.toNat < 128) :
    Calls Tryz.prog 27 #[.string s] w fun e w' => e = .returned (.string ⟨(s.data.toList.map upB).toArray⟩) ∧ Below w.heap.size w w' := by
  have Ha := Lib.hid ha
  clear ha
  go_enter Tryz.func27, Tryz.ntmps27
  go_wp2
  go_loop [3, 4, 5] (fun v3 v4 v5 => ∃ (i : Nat) (hl : Bool), v3 = .bool true ∧ v4 = .bool hl ∧ v5 = .int .i64 i ∧ i ≤ s.size ∧ Hid (hl = false → ∀ k c, k < i → s.data.toList[k]? = some c → ¬ lowP c)) (fun _ _ v5 => s.size - (intOf v5).toNat)
  case atStart => exact ⟨0, false, rfl, rfl, rfl, by omega, fun _ k c hk => by omega⟩
  case round =>
    obtain ⟨i, hl, rfl, rfl, rfl, hi, HL⟩ := hrel
    by_cases hlt : i < s.size
    · obtain ⟨c, hc⟩ : ∃ c, s.data.toList[i]? = some c := ⟨_, List.getElem?_eq_getElem (by rw [size_data]; exact hlt)⟩
      have hcs : s[i]'hlt = c := (List.getElem?_eq_some_iff.1 hc).2
      have h128 : (s[i]'hlt).toNat < 128 := by rw [hcs]; exact Ha.out c (List.mem_of_getElem? hc)
      cases hl with
      | true =>
        clear HL hc hcs
        go_wp2
        go_round
        case rel => exact ⟨i + 1, true, rfl, by first | rfl | (congr 1; simp; omega), by go_num, by omega, Lib.hid (fun h => by cases h)⟩
        case measure => simp [intOf]; omega
      | false =>
        have HN := Lib.hid (HL.out rfl)
        clear HL
        by_cases hlo : lowP c
        · have h1 : 97 ≤ (s[i]'hlt).toNat := by rw [hcs]; exact hlo.1
          have h2 : (s[i]'hlt).toNat ≤ 122 := by rw [hcs]; exact hlo.2
          clear hc hcs
          go_wp2
          go_round
          case rel => exact ⟨i + 1, true, rfl, by first | rfl | (congr 1; simp; omega), by go_num, by omega, Lib.hid (fun h => by cases h)⟩
          case measure => simp [intOf]; omega
        · have HN2 : Hid (false = false → ∀ k c, k < i + 1 → s.data.toList[k]? = some c → ¬ lowP c) := Lib.hid (fun _ k d hk hd => by
            rcases Nat.lt_or_ge k i with h | h
            · exact HN.out k d h hd
            · obtain rfl : k = i := by omega
              rw [hc] at hd; cases hd; exact hlo)
          rcases (by unfold lowP at hlo; rw [hcs]; omega : (s[i]'hlt).toNat < 97 ∨ 122 < (s[i]'hlt).toNat) with h1 | h1
          all_goals
            clear hc hcs
            go_wp2
            go_round
            case rel => exact ⟨i + 1, false, rfl, by first | rfl | (congr 1; simp; omega), by go_num, by omega, HN2⟩
            case measure => simp [intOf]; omega
    · obtain rfl : i = s.size := by omega
      cases hl with
      | false =>
        have HN := Lib.hid (HL.out rfl)
        clear HL
        go_wp2
        go_ret
        refine ⟨?_, Below.refl _ _⟩
        rw [map_not (fun c hc => by
          obtain ⟨k, hk, hkc⟩ := List.getElem_of_mem hc
          exact HN.out k c (by rw [← size_data]; exact hk) (by rw [List.getElem?_eq_getElem hk, hkc]))]
        rfl
      | true =>
        clear HL
        have hbk : (w.alloc (.cells #[.pointer none, .slice none 0 0] 52)).heap[w.heap.size]? = some (.cells #[.pointer none, .slice none 0 0] 52 (0, 0)) := heap_alloc_new w _
        have hb0 : Below w.heap.size w (w.alloc (.cells #[.pointer none, .slice none 0 0] 52)) := (Below.refl _ _).alloc (Nat.le_refl _) _
        go_wp2_with fail
        refine (bGrow_any w.heap.size s.size _ hbk (by omega)).mono ?_
        rintro e w1 ⟨rfl, hB1, hb1⟩
        have hb2 := hb0.trans hb1
        clear hbk hb0 hb1
        go_wp2_with fail
        go_loopw [8, 9] (fun v8 v9 wr => ∃ (i p : Nat) (l : List UInt8), v8 = .int .i64 p ∧ v9 = .int .i64 i ∧ Bld wr w.heap.size (w.heap.size + 1) l ∧ Hid (UpAt s i p l) ∧ Below w.heap.size w wr ∧ p ≤ i ∧ i ≤ s.size) (fun _ v9 _ => s.size - (intOf v9).toNat)
        case atStart => exact ⟨0, 0, [], rfl, rfl, hB1, Lib.hid ⟨Nat.le_refl _, Nat.zero_le _, rfl, fun k c h1 h2 => by omega⟩, hb2, Nat.le_refl _, Nat.zero_le _⟩
        case round =>
          clear hB1 hb2
          obtain ⟨i, p, l, rfl, rfl, hB, HU, hb, hpi, his⟩ := hrel
          have hlen : l.length ≤ s.size := by have := upAt_len HU.out; omega
          have hBw : w.heap.size + 1 ≤ wr.heap.size := hB.lt
          by_cases hlt : i < s.size
          · obtain ⟨c, hc⟩ : ∃ c, s.data.toList[i]? = some c := ⟨_, List.getElem?_eq_getElem (by rw [size_data]; exact hlt)⟩
            have hcs : s[i]'hlt = c := (List.getElem?_eq_some_iff.1 hc).2
            have h128 : (s[i]'hlt).toNat < 128 := by rw [hcs]; exact Ha.out c (List.mem_of_getElem? hc)
            by_cases hlo : lowP c
            · have h1 : 97 ≤ (s[i]'hlt).toNat := by rw [hcs]; exact hlo.1
              have h2 : (s[i]'hlt).toNat ≤ 122 := by rw [hcs]; exact hlo.2
              have HP := Lib.hid (upAt_put HU.out hlt hc hlo)
              have Hnat := Lib.hid (upB_nat hlo)
              have Hcs := Lib.hid hcs
              clear hc hcs
              by_cases hpi2 : p < i
              · go_wp2_with fail
                refine (lWriteString_any w.heap.size (w.heap.size + 1) l (s.extract p i) wr hB (by omega) (by rw [ByteArray.size_extract]; omega) hBw).mono ?_
                rintro e w2 ⟨rfl, hB2, hb2, _, _⟩
                have hBw2 := hB2.lt
                have hb3 := hb.trans hb2
                clear hb hb2 hB
                go_wp2_with fail
                rw [show (((s[i]'hlt).toNat : Int) - 32) = ((c - 32 : UInt8).toNat : Int) by rw [Hnat.out, Hcs.out]]
                refine (lWriteByte_any w.heap.size (w.heap.size + 1) _ (c - 32) w2 hB2 (by omega) (by rw [List.length_append, size_data, ByteArray.size_extract]; omega) (by omega)).mono ?_
                rintro e w3 ⟨rfl, hB3, hb4, _⟩
                have hb5 := hb3.trans hb4
                clear hb3 hb4 hB2
                go_wp2
                go_roundw
                case rel => exact ⟨i + 1, i + 1, _, by go_num, by go_num, hB3, HP, hb5, Nat.le_refl _, by omega⟩
                case measure => simp [intOf]; omega
              · obtain rfl : p = i := by omega
                have he : (s.extract p p).data.toList = [] := by simp
                rw [he, List.append_nil] at HP
                clear he
                go_wp2_with fail
                rw [show (((s[p]'hlt).toNat : Int) - 32) = ((c - 32 : UInt8).toNat : Int) by rw [Hnat.out, Hcs.out]]
                refine (lWriteByte_any w.heap.size (w.heap.size + 1) _ (c - 32) wr hB (by omega) (by omega) (by omega)).mono ?_
                rintro e w3 ⟨rfl, hB3, hb4, _⟩
                have hb5 := hb.trans hb4
                clear hb hb4 hB
                go_wp2
                go_roundw
                case rel => exact ⟨p + 1, p + 1, _, by go_num, by go_num, hB3, HP, hb5, Nat.le_refl _, by omega⟩
                case measure => simp [intOf]; omega
            · have HP := Lib.hid (upAt_skip HU.out hlt hc hlo)
              rcases (by unfold lowP at hlo; rw [hcs]; omega : (s[i]'hlt).toNat < 97 ∨ 122 < (s[i]'hlt).toNat) with h1 | h1
              all_goals
                clear hc hcs
                go_wp2
                go_roundw
                case rel => exact ⟨i + 1, p, l, rfl, by go_num, hB, HP, hb, by omega, by omega⟩
                case measure => simp [intOf]; omega
          · obtain rfl : i = s.size := by omega
            have HE := Lib.hid (upAt_seg HU.out)
            by_cases hpi2 : p < s.size
            · go_wp2_with fail
              refine (lWriteString_any w.heap.size (w.heap.size + 1) l (s.extract p s.size) wr hB (by omega) (by rw [ByteArray.size_extract]; omega) hBw).mono ?_
              rintro e w2 ⟨rfl, hB2, hb2, _, _⟩
              have hb3 := hb.trans hb2
              clear hb hb2 hB
              go_wp2_with fail
              refine (bString_any w.heap.size (w.heap.size + 1) _ w2 hB2 (by omega)).mono ?_
              rintro e w3 ⟨rfl, hb4, _⟩
              go_wp2
              go_ret
              refine ⟨?_, hb3.trans hb4⟩
              have HE2 := HE.out
              rw [Lib.extract_data] at HE2
              rw [HE2, List.take_of_length_le (by rw [size_data]; omega)]
              rfl
            · obtain rfl : p = s.size := by omega
              go_wp2_with fail
              refine (bString_any w.heap.size (w.heap.size + 1) _ wr hB (by omega)).mono ?_
              rintro e w3 ⟨rfl, hb4, _⟩
              go_wp2
              go_ret
              refine ⟨?_, hb.trans hb4⟩
              rw [HU.out.2.2.1, List.take_of_length_le (by rw [size_data]; omega)]
              rfl
end Go.Proofs.YteelepiaegpkhaaGreatDoor
