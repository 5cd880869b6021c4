/-
  strconv.FormatInt at base 16, of a rune's number.
-/
import Derived.Test.YteelepiaegpkhaaGreatDoorPrintP
import Derived.Test.YteelepiaegpkhaaGreatDoorBase
import Derived.Deep.LoopGhost
import Derived.Lib.ConvBytes
import Derived.Laws.Bits64b
namespace Go.Proofs.YteelepiaegpkhaaGreatDoor
open Go.RowKit

def lowD (d : Nat) : UInt8 := if d < 10 then UInt8.ofNat (48 + d) else UInt8.ofNat (87 + d)
/-- The last k hexadecimal digits of a number, in lower case. -/
def lowW : Nat → Nat → List UInt8
  | 0, _ => []
  | k + 1, n => lowW k (n / 16) ++ [lowD (n % 16)]
def hexL (n : Nat) : Nat := if n < 16 then 1 else if n < 256 then 2 else if n < 4096 then 3 else hexK n
def lowS (n : Nat) : List UInt8 := lowW (hexL n) n
/-- The library's table holds what is read at base 16. -/
def TabB (w : World) : Prop := w.cell? ⟨6, 15, none⟩ = some (.int .u8 4)

theorem isPow_any (w : World) : Calls Tryz.prog 87 #[.int .i64 16] w fun e w' => e = .returned (.bool true) ∧ w = w' := by
  go_enter Tryz.func87, Tryz.ntmps87
  go_wp2
  go_ret
  exact ⟨rfl, rfl⟩
theorem tz64_any (w : World) (h : TabB w) : Calls Tryz.prog 96 #[.int .u64 16] w fun e w' => e = .returned (.int .i64 4) ∧ w = w' := by
  unfold TabB at h
  have key : IntKind.u64.wrap (bits BinOp.and IntKind.u64 16 (IntKind.u64.wrap (-16)) * 285870213051353865) / 288230376151711744 = 15 := by kernel_rfl
  go_enter Tryz.func96, Tryz.ntmps96
  go_wp2_with (simp only [key])
  go_ret
  exact ⟨rfl, rfl⟩
theorem tz_any (w : World) (h : TabB w) : Calls Tryz.prog 88 #[.int .u64 16] w fun e w' => e = .returned (.int .i64 4) ∧ w = w' := by
  go_enter Tryz.func88, Tryz.ntmps88
  go_wp2_with fail
  refine (tz64_any _ h).mono ?_
  rintro e w' ⟨rfl, rfl⟩
  go_wp2
  go_ret
  exact ⟨rfl, rfl⟩

theorem hexL_bd (n : Nat) : 1 ≤ hexL n ∧ hexL n ≤ 6 := by unfold hexL; have := hexK_bd n; split <;> (try split) <;> (try split) <;> omega
theorem hexL_lt {n j : Nat} (hn : n ≤ 1114111) (hj : j < hexL n) (h : 16 ≤ n / 16 ^ j) : j + 1 < hexL n := by
  have h2 : 16 ^ (j + 1) ≤ n := by
    have := (Nat.le_div_iff_mul_le (Nat.pow_pos (by decide : 0 < 16))).1 h
    rw [Nat.pow_succ]; omega
  have hb := hexL_bd n
  have : n < 16 ^ hexL n := by
    unfold hexL hexK
    split
    · simpa using ‹_›
    · split
      · simpa using ‹_›
      · split
        · simpa using ‹_›
        · split
          · simpa using ‹_›
          · split
            · simpa using ‹_›
            · show n < 16777216; omega
  rcases Nat.lt_or_ge (j + 1) (hexL n) with h | h
  · exact h
  · have := Nat.pow_le_pow_right (by decide : 0 < 16) h
    omega
theorem hexL_ge {n j : Nat} (h : n / 16 ^ j < 16) : hexL n ≤ j + 1 := by
  have h2 : n < 16 ^ (j + 1) := by
    rw [Nat.pow_succ]
    have := (Nat.div_lt_iff_lt_mul (Nat.pow_pos (by decide : 0 < 16))).1 h
    omega
  have hb := hexL_bd n
  rcases (by omega : j = 0 ∨ j = 1 ∨ j = 2 ∨ j = 3 ∨ j = 4 ∨ 5 ≤ j) with rfl | rfl | rfl | rfl | rfl | h
  · have : n < 16 := h2
    unfold hexL; rw [if_pos this]; omega
  · have : n < 256 := h2
    unfold hexL; split <;> (try split) <;> omega
  · have : n < 4096 := h2
    unfold hexL; split <;> (try split) <;> (try split) <;> omega
  · have : n < 65536 := h2
    unfold hexL hexK; split <;> (try split) <;> (try split) <;> (try split) <;> omega
  · have : n < 1048576 := h2
    unfold hexL hexK; split <;> (try split) <;> (try split) <;> (try split) <;> (try split) <;> omega
  · omega
/-- How far formatBits has come: j digits are laid. -/
def FmtAt (n j x : Nat) (cs : Array Value) : Prop := x = n / 16 ^ j ∧ cs.size = 65 ∧ cs.toList.drop (65 - j) = (lowW j n).map (fun c => Value.int .u8 c.toNat) ∧ j < hexL n
theorem dig36 (d : Nat) (h : d < 16) (W : World) : (Instr.index 9 (.string ⟨#[48, 49, 50, 51, 52, 53, 54, 55, 56, 57, 97, 98, 99, 100, 101, 102, 103, 104, 105, 106, 107, 108, 109, 110, 111, 112, 113, 114, 115, 116, 117, 118, 119, 120, 121, 122]⟩) (.int .u64 d)).run Tryz.prog W = .ok (.int .u8 ((lowD d).toNat : Int)) W := by
  rw [run_index_string _ _ _ _ _ Tryz.underlying9]
  rcases (by omega : d = 0 ∨ d = 1 ∨ d = 2 ∨ d = 3 ∨ d = 4 ∨ d = 5 ∨ d = 6 ∨ d = 7 ∨ d = 8 ∨ d = 9 ∨ d = 10 ∨ d = 11 ∨ d = 12 ∨ d = 13 ∨ d = 14 ∨ d = 15) with rfl | rfl | rfl | rfl | rfl | rfl | rfl | rfl | rfl | rfl | rfl | rfl | rfl | rfl | rfl | rfl <;> rfl

theorem lowW_succ (j n : Nat) : lowW (j + 1) n = lowD (n / 16 ^ j % 16) :: lowW j n := by
  induction j generalizing n with
  | zero => simp [lowW]
  | succ j ih => rw [lowW, ih, lowW, Nat.div_div_eq_div_mul, ← Nat.pow_succ']; rfl
theorem lowW_len : ∀ (k n : Nat), (lowW k n).length = k
  | 0, _ => rfl
  | k + 1, n => by rw [lowW, List.length_append, lowW_len k]; rfl
theorem drop_set_self {α : Type} : ∀ (l : List α) (k : Nat) (v : α), k < l.length → (l.set k v).drop k = v :: l.drop (k + 1)
  | [], k, _, h => by simp at h
  | _ :: _, 0, _, _ => rfl
  | _ :: l, k + 1, v, h => drop_set_self l k v (by simpa using h)
theorem dig_eq (d : Nat) (h : d < 16) (hd : d < (⟨#[48, 49, 50, 51, 52, 53, 54, 55, 56, 57, 97, 98, 99, 100, 101, 102, 103, 104, 105, 106, 107, 108, 109, 110, 111, 112, 113, 114, 115, 116, 117, 118, 119, 120, 121, 122]⟩ : ByteArray).size) :
    ((⟨#[48, 49, 50, 51, 52, 53, 54, 55, 56, 57, 97, 98, 99, 100, 101, 102, 103, 104, 105, 106, 107, 108, 109, 110, 111, 112, 113, 114, 115, 116, 117, 118, 119, 120, 121, 122]⟩ : ByteArray)[d]'hd) = lowD d := by
  rcases (by omega : d = 0 ∨ d = 1 ∨ d = 2 ∨ d = 3 ∨ d = 4 ∨ d = 5 ∨ d = 6 ∨ d = 7 ∨ d = 8 ∨ d = 9 ∨ d = 10 ∨ d = 11 ∨ d = 12 ∨ d = 13 ∨ d = 14 ∨ d = 15) with rfl | rfl | rfl | rfl | rfl | rfl | rfl | rfl | rfl | rfl | rfl | rfl | rfl | rfl | rfl | rfl <;> rfl
theorem v_u64 {a b : Int} (h : a = b) : Value.int .u64 a = .int .u64 b := by rw [h]
theorem v_u8 {a b : Int} (h : a = b) : Value.int .u8 a = .int .u8 b := by rw [h]
theorem fmt_put {n j x p d : Nat} {cs : Array Value} (h : FmtAt n j x cs) (hp : p + j = 65) (hd : x % 16 = d) :
    (cs.setIfInBounds (p - 1) (.int .u8 (lowD d).toNat)).size = 65 ∧ (cs.setIfInBounds (p - 1) (.int .u8 (lowD d).toNat)).toList.drop (65 - (j + 1)) = (lowW (j + 1) n).map (fun c => Value.int .u8 c.toNat) := by
  obtain ⟨h1, h2, h3, h4⟩ := h
  have hb := hexL_bd n
  refine ⟨by simpa using h2, ?_⟩
  rw [Array.toList_setIfInBounds, show 65 - (j + 1) = p - 1 by omega, drop_set_self _ _ _ (by rw [Array.length_toList]; omega), lowW_succ, List.map_cons, show p - 1 + 1 = 65 - j by omega, h3, ← h1, hd]
theorem fmt_next {n j x p d q : Nat} {cs : Array Value} (h : FmtAt n j x cs) (hn : n ≤ 1114111) (hp : p + j = 65) (hx : x = 16 * q + d) (h16 : d < 16) (hc : 16 ≤ x) : FmtAt n (j + 1) q (cs.setIfInBounds (p - 1) (.int .u8 (lowD d).toNat)) := by
  obtain ⟨k1, k2⟩ := fmt_put h hp (show x % 16 = d by omega)
  obtain ⟨h1, h2, h3, h4⟩ := h
  exact ⟨by rw [Nat.pow_succ, ← Nat.div_div_eq_div_mul, ← h1]; omega, k1, k2, hexL_lt hn h4 (by omega)⟩
theorem fmt_end {n j x p : Nat} {cs : Array Value} (h : FmtAt n j x cs) (hp : p + j = 65) (hc : x < 16) :
    j + 1 = hexL n ∧ ∀ k, (hk : k < (lowS n).length) → (cs.setIfInBounds (p - 1) (.int .u8 (lowD x).toNat))[p - 1 + k]? = some (.int .u8 ((lowS n)[k].toNat : Int)) := by
  obtain ⟨k1, k2⟩ := fmt_put h hp (show x % 16 = x by omega)
  obtain ⟨h1, h2, h3, h4⟩ := h
  have hb := hexL_bd n
  have hj : j + 1 = hexL n := by have := hexL_ge (n := n) (j := j) (by omega); omega
  refine ⟨hj, fun k hk => ?_⟩
  have := congrArg (·[k]?) k2
  simp only [List.getElem?_drop, List.getElem?_map] at this
  rw [show 65 - (j + 1) + k = p - 1 + k by omega, Array.getElem?_toList] at this
  rw [this, hj]
  show Option.map _ ((lowS n)[k]?) = _
  rw [List.getElem?_eq_getElem hk]; rfl
theorem sl65 (b p : Nat) (h : 60 ≤ p) (h2 : p ≤ 65) (W : World) : (Instr.sliceAt 127 (.pointer (some ⟨b, 0, none⟩)) (some (.int .i64 ((p : Int) - 1))) none none).run Tryz.prog W = .ok (.slice (some ⟨b, p - 1, none⟩) (66 - p) (66 - p)) W := by
  rcases (by omega : p = 60 ∨ p = 61 ∨ p = 62 ∨ p = 63 ∨ p = 64 ∨ p = 65) with rfl | rfl | rfl | rfl | rfl | rfl <;> kernel_rfl

set_option maxRecDepth 100000 in
set_option maxHeartbeats 1000000 in
theorem fbits_any (n : Nat) (w : World) (h1 : n ≤ 1114111) (hT : TabB w) :
    Calls Tryz.prog 69 #[.slice none 0 0, .int .u64 n, .int .i64 16, .bool false, .bool false] w fun e w' => e = .returned (.tuple #[.slice none 0 0, .string ⟨(lowS n).toArray⟩]) ∧ Below w.heap.size w w' := by
  go_enter Tryz.func69, Tryz.ntmps69
  go_wp2_with fail
  refine (isPow_any _).mono ?_
  rintro e w' ⟨rfl, rfl⟩
  go_wp2_with fail
  refine (tz_any _ (by unfold TabB at hT ⊢; exact cell_keep hT ((Below.refl _ _).alloc (Nat.le_refl _) _))).mono ?_
  rintro e w' ⟨rfl, rfl⟩
  go_wp2
  have hblk : Blk (w.alloc (Obj.cells Tryz.zeroCells127 127)) w.heap.size 127 Tryz.zeroCells127 := Blk.new _ _ _
  have hbel : Below w.heap.size w (w.alloc (Obj.cells Tryz.zeroCells127 127)) := (Below.refl _ _).alloc (Nat.le_refl _) _
  have hz : (Tryz.zeroCells127).size = 65 := by kernel_rfl
  have HF := Lib.hid (show FmtAt n 0 n Tryz.zeroCells127 from ⟨by simp, hz, by rw [List.drop_of_length_le (by simp [hz])]; rfl, by unfold hexL; split <;> (try split) <;> (try split) <;> (try unfold hexK) <;> (try split) <;> (try split) <;> omega⟩)
  generalize Tryz.zeroCells127 = cs0 at hblk hbel HF hz ⊢
  clear hz
  go_loopg [1, 13] 6 (fun gk v1 v13 wx => ∃ (j x p : Nat) (cs : Array Value), v1 = .int .u64 x ∧ v13 = .int .i64 p ∧ Blk wx w.heap.size 127 cs ∧ Hid (FmtAt n j x cs) ∧ Hid (j + gk = 6) ∧ Hid (p + j = 65) ∧ x ≤ 1114111 ∧ p ≤ 65 ∧ 60 ≤ p ∧ Below w.heap.size w wx)
  case atStart => exact ⟨0, n, 65, _, rfl, rfl, hblk, HF, Lib.hid rfl, Lib.hid rfl, h1, by omega, by omega, hbel⟩
  case round =>
    clear hblk hbel HF
    obtain ⟨j, x, p, cs, rfl, rfl, hblk, HF, HG, HP, hx, hp1, hp2, hbel⟩ := hrel
    by_cases hc : 16 ≤ x
    · obtain ⟨q, d, hd, h16⟩ : ∃ q d, x = 16 * q + d ∧ d < 16 := ⟨x / 16, x % 16, by omega, by omega⟩
      have hand : bits BinOp.and IntKind.u64 (x : Int) 15 = (d : Int) := by
        have h := bits_and_u64_nat x 15 (by omega) (by omega)
        refine h.trans ?_
        rw [show (15 : Nat) = 2 ^ 4 - 1 from rfl, Nat.and_two_pow_sub_one_eq_mod]; omega
      have hf := hblk.frozen (p - 1)
      obtain ⟨v0, hv0⟩ : ∃ v0, cs[p - 1]? = some v0 := ⟨_, Array.getElem?_eq_getElem (by have := HF.out.2.1; omega)⟩
      have hc0 : wr.cell? ⟨w.heap.size, p - 1, none⟩ = some v0 := (hblk.cell _).trans hv0
      have Hd := Lib.hid hd
      clear hd hv0
      have HN := Lib.hid (fmt_next HF.out h1 HP.out Hd.out h16 hc)
      have hj5 : p - 1 + (j + 1) = 65 := by have := HP.out; omega
      have Hj5 := Lib.hid hj5
      have hp3 : 61 ≤ p := by have := HN.out.2.2.2; have := hexL_bd n; omega
      obtain ⟨g', rfl⟩ : ∃ g', gk = g' + 1 := ⟨gk - 1, by have := HG.out; have := HN.out.2.2.2; have := hexL_bd n; omega⟩
      clear hj5
      go_wp2
      go_roundg g'
      case rel =>
        refine ⟨j + 1, q, p - 1, _, v_u64 (by have := Hd.out; omega), by go_num, hblk.set_ _ _, ?_, Lib.hid (by have := HG.out; omega), Hj5, by have := Hd.out; omega, by omega, by omega, hbel.setCell (p := ⟨w.heap.size, p - 1, none⟩) (by simp) _⟩
        rw [v_u8 (congrArg (fun z : UInt8 => (z.toNat : Int)) (dig_eq d h16 _))]
        exact HN
      case measure => omega
    · have hf := hblk.frozen (p - 1)
      obtain ⟨v0, hv0⟩ : ∃ v0, cs[p - 1]? = some v0 := ⟨_, Array.getElem?_eq_getElem (by have := HF.out.2.1; omega)⟩
      have hc0 : wr.cell? ⟨w.heap.size, p - 1, none⟩ = some v0 := (hblk.cell _).trans hv0
      have hsl := sl65 w.heap.size p hp2 hp1
      have HE := Lib.hid (fmt_end HF.out HP.out (by omega))
      clear hv0
      go_wp2
      rw [v_u8 (congrArg (fun z : UInt8 => (z.toNat : Int)) (dig_eq x (by omega) _))]
      have hB := hblk.set_ (p - 1) (.int .u8 ((lowD x).toNat : Int))
      have hl : (lowS n).length = 66 - p := by have h9 := HE.out.1; have := HP.out; unfold lowS; rw [lowW_len]; omega
      have hcv := run_convert_bytes_back (P := Tryz.prog) (wr.setCell ⟨w.heap.size, p - 1, none⟩ (.int .u8 ((lowD x).toNat : Int))) 47 9 5 ⟨w.heap.size, p - 1, none⟩ (66 - p) (lowS n) Tryz.underlying47 Tryz.underlying5 Tryz.underlying9 (fun k hk => by
        have e : (⟨w.heap.size, p - 1, none⟩ : Addr).add k = ⟨w.heap.size, p - 1 + k, none⟩ := by
          unfold Addr.add
          split
          · rename_i h0; rw [h0, Nat.add_zero]
          · rfl
        rw [e, hB.cell, HE.out.2 k hk])
      rw [hl] at hcv
      rw [hcv]
      simp only [Result.andThen]
      rw [Oper.upon_value]
      go_wp2
      go_ret2
      exact ⟨rfl, hbel.setCell (p := ⟨w.heap.size, p - 1, none⟩) (by simp) _⟩
theorem iFormat_any (n : Nat) (w : World) (h1 : n ≤ 1114111) (hT : TabB w) :
    Calls Tryz.prog 41 #[.int .i64 n, .int .i64 16] w fun e w' => e = .returned (.string ⟨(lowS n).toArray⟩) ∧ Below w.heap.size w w' := by
  go_enter Tryz.func41, Tryz.ntmps41
  go_wp2_with fail
  refine (fbits_any n _ h1 hT).mono ?_
  rintro e w' ⟨rfl, hb⟩
  go_wp2
  go_ret
  exact ⟨rfl, hb⟩
theorem lFormat_any (n : Nat) (w : World) (h1 : n ≤ 1114111) (hT : TabB w) :
    Calls Tryz.prog 28 #[.int .i64 n, .int .i64 16] w fun e w' => e = .returned (.string ⟨(lowS n).toArray⟩) ∧ Below w.heap.size w w' := by
  go_enter Tryz.func28, Tryz.ntmps28
  go_wp2_with fail
  refine (iFormat_any n _ h1 hT).mono ?_
  rintro e w' ⟨rfl, hb⟩
  go_wp2
  go_ret
  exact ⟨rfl, hb⟩
end Go.Proofs.YteelepiaegpkhaaGreatDoor
