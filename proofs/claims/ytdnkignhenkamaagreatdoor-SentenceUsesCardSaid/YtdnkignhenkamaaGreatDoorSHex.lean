/- -/
import Derived.Lib.ConvBytes
import Derived.Deep.DeepMust
import Derived.Test.YtdnkignhenkamaaGreatDoorS0a
namespace Go.Proofs.YtdnkignhenkamaaGreatDoor
open Go.RowKit
def isHexN (c : Int) : Bool := decide ((48 ≤ c ∧ c ≤ 57) ∨ (65 ≤ c ∧ c ≤ 70))
def hexDig (c : Int) : Int := if c ≤ 57 then c - 48 else c - 55
theorem isHexN_t {c : Int} (h : (48 ≤ c ∧ c ≤ 57) ∨ (65 ≤ c ∧ c ≤ 70)) : true = isHexN c := (decide_eq_true h).symm
theorem isHexN_f {c : Int} (h : ¬ ((48 ≤ c ∧ c ≤ 57) ∨ (65 ≤ c ∧ c ≤ 70))) : false = isHexN c := (decide_eq_false h).symm
theorem rhex_any (c : Int) (w : World) (h0 : 0 ≤ c) (h1 : c ≤ 255) : Calls Tryz.prog 245 #[.int .u8 c] w fun e w' => e = .returned (.bool (isHexN c)) ∧ w = w' := by
  rcases (by omega : c < 48 ∨ (48 ≤ c ∧ c ≤ 57) ∨ (57 < c ∧ c < 65) ∨ (65 ≤ c ∧ c ≤ 70) ∨ 70 < c) with h | ⟨h, h'⟩ | ⟨h, h'⟩ | ⟨h, h'⟩ | h
  all_goals
    go_enter Tryz.func245, Tryz.ntmps245
    go_wp2
    go_ret
    exact ⟨ret_bool (by first | (refine isHexN_t ?_; omega) | (refine isHexN_f ?_; omega) | (unfold isHexN; rw [Bool.eq_iff_iff]; simp only [Bool.or_eq_true, decide_eq_true_eq]; omega)), rfl⟩
theorem ilower_any (c : Int) (w : World) (h0 : 65 ≤ c) (h1 : c ≤ 70) : Calls Tryz.prog 273 #[.int .u8 c] w fun e w' => e = .returned (.int .u8 (c + 32)) ∧ w = w' := by
  rcases (by omega : c = 65 ∨ c = 66 ∨ c = 67 ∨ c = 68 ∨ c = 69 ∨ c = 70) with rfl | rfl | rfl | rfl | rfl | rfl
  all_goals
    go_enter Tryz.func273, Tryz.ntmps273
    go_wp2
    go_ret
    exact ⟨rfl, rfl⟩
def hexVal (l : List UInt8) : Int := l.foldl (fun a c => a * 16 + hexDig c.toNat) 0
theorem hexVal_snoc (l : List UInt8) (c : UInt8) : hexVal (l ++ [c]) = hexVal l * 16 + hexDig c.toNat := by simp [hexVal]
def allHex (l : List UInt8) : Prop := ∀ c ∈ l, isHexN (c.toNat : Int) = true
theorem hexDig_bd {c : Int} (h : isHexN c = true) : 0 ≤ hexDig c ∧ hexDig c ≤ 15 := by
  have := of_decide_eq_true h
  unfold hexDig; split <;> omega
theorem hexVal_bd : ∀ (n : Nat) (l : List UInt8) (_ : l.length = n) (_ : allHex l), 0 ≤ hexVal l ∧ hexVal l < (16 : Int) ^ n
  | 0, l, h, _ => by
    have : l = [] := List.eq_nil_of_length_eq_zero h
    subst this; simp [hexVal]
  | n + 1, l, h, ha => by
    rcases List.eq_nil_or_concat l with rfl | ⟨o, y, rfl⟩
    · simp at h
    · rw [List.concat_eq_append] at *
      have ih := hexVal_bd n o (by simpa using h) (fun c hc => ha c (by simp [hc]))
      have hd := hexDig_bd (ha y (by simp))
      rw [hexVal_snoc, Int.pow_succ]
      omega
theorem below_bytesWorld (w : World) (e : TypeId) (s : ByteArray) : Below w.heap.size w (Lib.bytesWorld w e s) := by
  refine ⟨?_, ?_, ?_, by rw [Lib.bytesWorld_size]; omega, fun k hk => Lib.bytesWorld_at_old w e s k hk⟩ <;> simp [Lib.bytesWorld, World.freeze, World.alloc, World.drew, -World.alloc_eq, -World.drew_eq]
theorem take_snoc_u8 {l : List UInt8} {k : Nat} {c : UInt8} (h : l[k]? = some c) : l.take (k + 1) = l.take k ++ [c] := by rw [List.take_add_one, h]; rfl
theorem notEmpty {s : ByteArray} (h0 : 0 < s.size) : s.toList.isEmpty = false := by
  rw [ByteArray.toList_eq]
  cases h : s.data.toList with
  | nil =>
    have h1 : s.data.toList.length = 0 := by rw [h]; rfl
    have h2 : s.size = s.data.size := rfl
    rw [Array.length_toList] at h1; omega
  | cons _ _ => rfl
set_option maxRecDepth 100000 in
set_option maxHeartbeats 1000000 in
theorem iParseUint_any (s : ByteArray) (w : World) (h0 : 0 < s.size) (h6 : s.size ≤ 6) (hs : allHex s.data.toList) :
    Calls Tryz.prog 267 #[.string s, .int .i64 16, .int .i64 32] w fun e w' => e = .returned (.tuple #[.int .u64 (hexVal s.data.toList), .nilIface]) ∧ Below w.heap.size w w' := by
  have Hs := Lib.hid hs
  clear hs
  have hcv := fun W => Lib.run_convert_string_bytes (P := Tryz.prog) W 9 75 5 s Tryz.underlying9 Tryz.underlying75 Tryz.underlying5
  have he := notEmpty h0
  go_enter Tryz.func267, Tryz.ntmps267
  go_wp2
  have hcell := fun j hj => Lib.bytesWorld_cell w 5 s j hj
  have hbw := below_bytesWorld w 5 s
  generalize Lib.bytesWorld w 5 s = w1 at hcell hbw ⊢
  have Hcell := Lib.hid hcell
  clear hcell hcv
  go_loop [12, 13, 101] (fun u v i => ∃ (k : Nat) (m : Int), u = .bool false ∧ k ≤ s.size ∧ v = .int .u64 m ∧ i = .int .i64 k ∧ Hid (m = hexVal (s.data.toList.take k)) ∧ 0 ≤ m ∧ m ≤ 16777215) (fun _ _ i => s.size - (intOf i).toNat)
  case atStart => exact ⟨0, 0, rfl, by omega, rfl, rfl, rfl, by omega, by omega⟩
  case round =>
    obtain ⟨k, m, rfl, hk, rfl, rfl, Hm, hm0, hm1⟩ := hrel
    by_cases hlt : k < s.size
    · obtain ⟨c, Hc⟩ : ∃ c, Hid (s.data.toList[k]? = some c) := ⟨_, Lib.hid (List.getElem?_eq_getElem (by simpa using hlt))⟩
      have hc := Hcell.out k hlt
      rw [List.getD_eq_getElem?_getD, Hc.out, Option.getD_some] at hc
      have HT := Lib.hid (take_snoc_u8 Hc.out)
      have Hh : Hid (isHexN (c.toNat : Int) = true) := Lib.hid (Hs.out c (List.mem_of_getElem? Hc.out))
      have hbm : m ≤ 1048575 := by
        have h1 := hexVal_bd k (s.data.toList.take k) (by simp; omega) (fun c hc => Hs.out c (List.mem_of_mem_take hc))
        rw [← Hm.out] at h1
        have : (16 : Int) ^ k ≤ 16 ^ 5 := by
          rcases (by omega : k = 0 ∨ k = 1 ∨ k = 2 ∨ k = 3 ∨ k = 4 ∨ k = 5) with h | h | h | h | h | h <;> rw [h] <;> decide
        omega
      have hcr := of_decide_eq_true Hh.out
      have hbd := hexDig_bd Hh.out
      have HV : Hid (hexVal (s.data.toList.take (k + 1)) = m * 16 + hexDig c.toNat) := Lib.hid (by rw [HT.out, hexVal_snoc, Hm.out])
      rcases hcr with ⟨h48, h57⟩ | ⟨h65, h70⟩
      · have hd : hexDig (c.toNat : Int) = c.toNat - 48 := if_pos h57
        have HV' : Hid (hexVal (s.data.toList.take (k + 1)) = m * 16 + (c.toNat - 48)) := Lib.hid (by rw [HV.out, hd])
        clear hd hbd
        go_wp2
        refine ⟨⟨k + 1, m * 16 + (c.toNat - 48), rfl, by omega, rfl, by go_num, Lib.hid HV'.out.symm, by omega, by omega⟩, ?_⟩
        simp [intOf]; omega
      · have hd : hexDig (c.toNat : Int) = c.toNat - 55 := if_neg (by omega)
        have HV' : Hid (hexVal (s.data.toList.take (k + 1)) = m * 16 + (c.toNat - 55)) := Lib.hid (by rw [HV.out, hd])
        clear hd hbd
        go_wp2_with (go_at_call 273; go_must (refine (ilower_any c.toNat _ h65 h70).mono ?_); rintro e w' ⟨rfl, rfl⟩)
        refine ⟨⟨k + 1, m * 16 + (c.toNat + 32 - 97 + 10), rfl, by omega, rfl, by go_num, Lib.hid (by rw [HV'.out]; omega), by omega, by omega⟩, ?_⟩
        simp [intOf]; omega
    · have HE : Hid (m = hexVal s.data.toList) := Lib.hid (by rw [Hm.out, List.take_of_length_le (by simp; omega)])
      go_wp2
      go_ret2
      exact ⟨by rw [HE.out]; rfl, hbw⟩
set_option maxRecDepth 100000 in
set_option maxHeartbeats 1000000 in
theorem iParseInt_any (s : ByteArray) (w : World) (h0 : 0 < s.size) (h6 : s.size ≤ 6) (hs : allHex s.data.toList) :
    Calls Tryz.prog 262 #[.string s, .int .i64 16, .int .i64 32] w fun e w' => e = .returned (.tuple #[.int .i64 (hexVal s.data.toList), .nilIface]) ∧ Below w.heap.size w w' := by
  have hbd := hexVal_bd s.size s.data.toList rfl hs
  have hb2 : hexVal s.data.toList ≤ 16777215 := by
    have : (16 : Int) ^ s.size ≤ 16777216 := by
      rcases (by omega : s.size = 1 ∨ s.size = 2 ∨ s.size = 3 ∨ s.size = 4 ∨ s.size = 5 ∨ s.size = 6) with h | h | h | h | h | h <;> rw [h] <;> decide
    omega
  have hb1 := hbd.1
  clear hbd
  have he := notEmpty h0
  have hc : (48 ≤ ((s[0]'h0).toNat : Int) ∧ ((s[0]'h0).toNat : Int) ≤ 57) ∨ (65 ≤ ((s[0]'h0).toNat : Int) ∧ ((s[0]'h0).toNat : Int) ≤ 70) :=
    of_decide_eq_true (hs (s[0]'h0) (by rw [show s[0]'h0 = s.data.toList[0]'(by simpa using h0) from rfl]; exact List.getElem_mem _))
  have h43 : (((s[0]'h0).toNat : Int) == 43) = false := beq_eq_false_iff_ne.2 (by omega)
  have h45 : (((s[0]'h0).toNat : Int) == 45) = false := beq_eq_false_iff_ne.2 (by omega)
  clear hc
  have Hs := Lib.hid hs
  clear hs
  have hP := fun W => iParseUint_any s W h0 h6 Hs.out
  generalize hexVal s.data.toList = V at hb1 hb2 hP ⊢
  have HP := Lib.hid hP
  clear hP
  go_enter Tryz.func262, Tryz.ntmps262
  go_wp2_with fail
  refine (HP.out _).mono ?_
  rintro e w1 ⟨rfl, hb⟩
  go_wp2
  go_ret2
  exact ⟨rfl, hb⟩
set_option maxHeartbeats 400000 in
theorem lParseInt_any (s : ByteArray) (w : World) (h0 : 0 < s.size) (h6 : s.size ≤ 6) (hs : allHex s.data.toList) :
    Calls Tryz.prog 246 #[.string s, .int .i64 16, .int .i64 32] w fun e w' => e = .returned (.tuple #[.int .i64 (hexVal s.data.toList), .nilIface]) ∧ Below w.heap.size w w' := by
  have hP := fun W => iParseInt_any s W h0 h6 hs
  generalize hexVal s.data.toList = V at hP ⊢
  have HP := Lib.hid hP
  clear hP hs
  go_enter Tryz.func246, Tryz.ntmps246
  go_wp2_with fail
  refine (HP.out _).mono ?_
  rintro e w1 ⟨rfl, hb⟩
  go_wp2
  go_ret2
  exact ⟨rfl, hb⟩
end Go.Proofs.YtdnkignhenkamaaGreatDoor

