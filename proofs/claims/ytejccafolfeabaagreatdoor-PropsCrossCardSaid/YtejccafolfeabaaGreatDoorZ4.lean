/-
  Several texts in one, in their build order: Fmt, Wh, We, HexR, Bld, Grow, Upper, Repeat, Spell, Join, Print, Wi, PropsL, Wj.
-/
import Derived.Deep.LoopGhost
import Derived.Lib.ConvBytes
import Derived.Laws.Bits64b
import Derived.Deep.DeepMust
import Derived.Shelf.Strings.BuilderK
import Derived.Lib.OthersKept
import Derived.RangeFuncOwn
import Derived.Lib.Builder
import Derived.Lib.FrozenHead2
import Derived.Test.YtejccafolfeabaaGreatDoorZ1
import Derived.Test.YtejccafolfeabaaGreatDoorZ2
import Derived.Test.YtejccafolfeabaaGreatDoorZ3
/-
  strconv.FormatInt at base 16, of a rune's number.
-/
namespace Go.Proofs.YtejccafolfeabaaGreatDoor
open Go.RowKit

def lowD (d : Nat) : UInt8 := if d < 10 then UInt8.ofNat (48 + d) else UInt8.ofNat (87 + d)
/-- The last k hexadecimal digits of a number, in lower case. -/
def lowW : Nat → Nat → List UInt8
  | 0, _ => []
  | k + 1, n => lowW k (n / 16) ++ [lowD (n % 16)]
def hexL (n : Nat) : Nat := if n < 16 then 1 else if n < 256 then 2 else if n < 4096 then 3 else hexK n
def lowS (n : Nat) : List UInt8 := lowW (hexL n) n
/-- The library's table holds what is read at base 16. -/
def TabB (w : World) : Prop := w.cell? ⟨6, 15, none⟩ = some (.int .u8 4)

theorem isPow_any (w : World) : Calls Tryz.prog 200 #[.int .i64 16] w fun e w' => e = .returned (.bool true) ∧ w = w' := by
  go_enter Tryz.func200, Tryz.ntmps200
  go_wp2
  go_ret
  exact ⟨rfl, rfl⟩
theorem tz64_any (w : World) (h : TabB w) : Calls Tryz.prog 209 #[.int .u64 16] w fun e w' => e = .returned (.int .i64 4) ∧ w = w' := by
  unfold TabB at h
  have key : IntKind.u64.wrap (bits BinOp.and IntKind.u64 16 (IntKind.u64.wrap (-16)) * 285870213051353865) / 288230376151711744 = 15 := by kernel_rfl
  go_enter Tryz.func209, Tryz.ntmps209
  go_wp2_with (simp only [key])
  go_ret
  exact ⟨rfl, rfl⟩
theorem tz_any (w : World) (h : TabB w) : Calls Tryz.prog 201 #[.int .u64 16] w fun e w' => e = .returned (.int .i64 4) ∧ w = w' := by
  go_enter Tryz.func201, Tryz.ntmps201
  go_wp2_with fail
  refine (tz64_any _ h).mono ?_
  rintro e w' ⟨rfl, rfl⟩
  go_wp2
  go_ret
  exact ⟨rfl, rfl⟩

theorem hexL_bd (n : Nat) : 1 ≤ hexL n ∧ hexL n ≤ 6 := by unfold hexL; have := hexK_bd n; split <;> (try split) <;> (try split) <;> omega
theorem hexL_lt {n j : Nat} (hn : n ≤ 1114111) (h : 16 ≤ n / 16 ^ j) : j + 1 < hexL n := by
  have h2 : 16 ^ (j + 1) ≤ n := by
    have := (Nat.le_div_iff_mul_le (Nat.pow_pos (by decide : 0 < 16))).1 h
    rw [Nat.pow_succ]; omega
  have hb := hexL_bd n
  have : n < 16 ^ hexL n := by
    unfold hexL hexK
    split
    · simpa using ‹_›
    · split
      · simpa using ‹_›
      · split
        · simpa using ‹_›
        · split
          · simpa using ‹_›
          · split
            · simpa using ‹_›
            · show n < 16777216; omega
  rcases Nat.lt_or_ge (j + 1) (hexL n) with h | h
  · exact h
  · have := Nat.pow_le_pow_right (by decide : 0 < 16) h
    omega
theorem hexL_ge {n j : Nat} (h : n / 16 ^ j < 16) : hexL n ≤ j + 1 := by
  have h2 : n < 16 ^ (j + 1) := by
    rw [Nat.pow_succ]
    have := (Nat.div_lt_iff_lt_mul (Nat.pow_pos (by decide : 0 < 16))).1 h
    omega
  have hb := hexL_bd n
  rcases (by omega : j = 0 ∨ j = 1 ∨ j = 2 ∨ j = 3 ∨ j = 4 ∨ 5 ≤ j) with rfl | rfl | rfl | rfl | rfl | h
  · have : n < 16 := h2
    unfold hexL; rw [if_pos this]; omega
  · have : n < 256 := h2
    unfold hexL; split <;> (try split) <;> omega
  · have : n < 4096 := h2
    unfold hexL; split <;> (try split) <;> (try split) <;> omega
  · have : n < 65536 := h2
    unfold hexL hexK; split <;> (try split) <;> (try split) <;> (try split) <;> omega
  · have : n < 1048576 := h2
    unfold hexL hexK; split <;> (try split) <;> (try split) <;> (try split) <;> (try split) <;> omega
  · omega
/-- How far formatBits has come: j digits are laid. -/
def FmtAt (n j x : Nat) (cs : Array Value) : Prop := x = n / 16 ^ j ∧ cs.size = 65 ∧ cs.toList.drop (65 - j) = (lowW j n).map (fun c => Value.int .u8 c.toNat) ∧ j < hexL n
theorem dig36 (d : Nat) (h : d < 16) (W : World) : (Instr.index 9 (.string ⟨#[48, 49, 50, 51, 52, 53, 54, 55, 56, 57, 97, 98, 99, 100, 101, 102, 103, 104, 105, 106, 107, 108, 109, 110, 111, 112, 113, 114, 115, 116, 117, 118, 119, 120, 121, 122]⟩) (.int .u64 d)).run Tryz.prog W = .ok (.int .u8 ((lowD d).toNat : Int)) W := by
  rw [run_index_string _ _ _ _ _ Tryz.underlying9]
  rcases (by omega : d = 0 ∨ d = 1 ∨ d = 2 ∨ d = 3 ∨ d = 4 ∨ d = 5 ∨ d = 6 ∨ d = 7 ∨ d = 8 ∨ d = 9 ∨ d = 10 ∨ d = 11 ∨ d = 12 ∨ d = 13 ∨ d = 14 ∨ d = 15) with rfl | rfl | rfl | rfl | rfl | rfl | rfl | rfl | rfl | rfl | rfl | rfl | rfl | rfl | rfl | rfl <;> rfl

theorem lowW_succ (j n : Nat) : lowW (j + 1) n = lowD (n / 16 ^ j % 16) :: lowW j n := by
  induction j generalizing n with
  | zero => simp [lowW]
  | succ j ih => rw [lowW, ih, lowW, Nat.div_div_eq_div_mul, ← Nat.pow_succ']; rfl
theorem lowW_len : ∀ (k n : Nat), (lowW k n).length = k
  | 0, _ => rfl
  | k + 1, n => by rw [lowW, List.length_append, lowW_len k]; rfl
theorem drop_set_self {α : Type} : ∀ (l : List α) (k : Nat) (v : α), k < l.length → (l.set k v).drop k = v :: l.drop (k + 1)
  | [], k, _, h => by simp at h
  | _ :: _, 0, _, _ => rfl
  | _ :: l, k + 1, v, h => drop_set_self l k v (by simpa using h)
theorem dig_eq (d : Nat) (h : d < 16) (hd : d < (⟨#[48, 49, 50, 51, 52, 53, 54, 55, 56, 57, 97, 98, 99, 100, 101, 102, 103, 104, 105, 106, 107, 108, 109, 110, 111, 112, 113, 114, 115, 116, 117, 118, 119, 120, 121, 122]⟩ : ByteArray).size) :
    ((⟨#[48, 49, 50, 51, 52, 53, 54, 55, 56, 57, 97, 98, 99, 100, 101, 102, 103, 104, 105, 106, 107, 108, 109, 110, 111, 112, 113, 114, 115, 116, 117, 118, 119, 120, 121, 122]⟩ : ByteArray)[d]'hd) = lowD d := by
  rcases (by omega : d = 0 ∨ d = 1 ∨ d = 2 ∨ d = 3 ∨ d = 4 ∨ d = 5 ∨ d = 6 ∨ d = 7 ∨ d = 8 ∨ d = 9 ∨ d = 10 ∨ d = 11 ∨ d = 12 ∨ d = 13 ∨ d = 14 ∨ d = 15) with rfl | rfl | rfl | rfl | rfl | rfl | rfl | rfl | rfl | rfl | rfl | rfl | rfl | rfl | rfl | rfl <;> rfl
theorem v_u64 {a b : Int} (h : a = b) : Value.int .u64 a = .int .u64 b := by rw [h]
theorem v_u8 {a b : Int} (h : a = b) : Value.int .u8 a = .int .u8 b := by rw [h]
theorem fmt_put {n j x p d : Nat} {cs : Array Value} (h : FmtAt n j x cs) (hp : p + j = 65) (hd : x % 16 = d) :
    (cs.setIfInBounds (p - 1) (.int .u8 (lowD d).toNat)).size = 65 ∧ (cs.setIfInBounds (p - 1) (.int .u8 (lowD d).toNat)).toList.drop (65 - (j + 1)) = (lowW (j + 1) n).map (fun c => Value.int .u8 c.toNat) := by
  obtain ⟨h1, h2, h3, h4⟩ := h
  have hb := hexL_bd n
  refine ⟨by simpa using h2, ?_⟩
  rw [Array.toList_setIfInBounds, show 65 - (j + 1) = p - 1 by omega, drop_set_self _ _ _ (by rw [Array.length_toList]; omega), lowW_succ, List.map_cons, show p - 1 + 1 = 65 - j by omega, h3, ← h1, hd]
theorem fmt_next {n j x p d q : Nat} {cs : Array Value} (h : FmtAt n j x cs) (hn : n ≤ 1114111) (hp : p + j = 65) (hx : x = 16 * q + d) (h16 : d < 16) (hc : 16 ≤ x) : FmtAt n (j + 1) q (cs.setIfInBounds (p - 1) (.int .u8 (lowD d).toNat)) := by
  obtain ⟨k1, k2⟩ := fmt_put h hp (show x % 16 = d by omega)
  obtain ⟨h1, h2, h3, h4⟩ := h
  exact ⟨by rw [Nat.pow_succ, ← Nat.div_div_eq_div_mul, ← h1]; omega, k1, k2, hexL_lt hn (by omega)⟩
theorem fmt_end {n j x p : Nat} {cs : Array Value} (h : FmtAt n j x cs) (hp : p + j = 65) (hc : x < 16) :
    j + 1 = hexL n ∧ ∀ k, (hk : k < (lowS n).length) → (cs.setIfInBounds (p - 1) (.int .u8 (lowD x).toNat))[p - 1 + k]? = some (.int .u8 ((lowS n)[k].toNat : Int)) := by
  obtain ⟨k1, k2⟩ := fmt_put h hp (show x % 16 = x by omega)
  obtain ⟨h1, h2, h3, h4⟩ := h
  have hb := hexL_bd n
  have hj : j + 1 = hexL n := by have := hexL_ge (n := n) (j := j) (by omega); omega
  refine ⟨hj, fun k hk => ?_⟩
  have := congrArg (·[k]?) k2
  simp only [List.getElem?_drop, List.getElem?_map] at this
  rw [show 65 - (j + 1) + k = p - 1 + k by omega, Array.getElem?_toList] at this
  rw [this, hj]
  show Option.map _ ((lowS n)[k]?) = _
  rw [List.getElem?_eq_getElem hk]; rfl
theorem sl65 (b p : Nat) (h : 60 ≤ p) (h2 : p ≤ 65) (W : World) : (Instr.sliceAt 234 (.pointer (some ⟨b, 0, none⟩)) (some (.int .i64 ((p : Int) - 1))) none none).run Tryz.prog W = .ok (.slice (some ⟨b, p - 1, none⟩) (66 - p) (66 - p)) W := by
  rcases (by omega : p = 60 ∨ p = 61 ∨ p = 62 ∨ p = 63 ∨ p = 64 ∨ p = 65) with rfl | rfl | rfl | rfl | rfl | rfl <;> kernel_rfl

set_option maxRecDepth 100000 in
set_option maxHeartbeats 1000000 in
theorem fbits_any (n : Nat) (w : World) (h1 : n ≤ 1114111) (hT : TabB w) :
    Calls Tryz.prog 181 #[.slice none 0 0, .int .u64 n, .int .i64 16, .bool false, .bool false] w fun e w' => e = .returned (.tuple #[.slice none 0 0, .string ⟨(lowS n).toArray⟩]) ∧ Below w.heap.size w w' := by
  go_enter Tryz.func181, Tryz.ntmps181
  go_wp2_with fail
  refine (isPow_any _).mono ?_
  rintro e w' ⟨rfl, rfl⟩
  go_wp2_with fail
  refine (tz_any _ (by unfold TabB at hT ⊢; exact cell_keep hT ((Below.refl _ _).alloc (Nat.le_refl _) _))).mono ?_
  rintro e w' ⟨rfl, rfl⟩
  go_wp2
  have hblk : Blk (w.alloc (Obj.cells Tryz.zeroCells234 234)) w.heap.size 234 Tryz.zeroCells234 := Blk.new _ _ _
  have hbel : Below w.heap.size w (w.alloc (Obj.cells Tryz.zeroCells234 234)) := (Below.refl _ _).alloc (Nat.le_refl _) _
  have hz : (Tryz.zeroCells234).size = 65 := by kernel_rfl
  have HF := Lib.hid (show FmtAt n 0 n Tryz.zeroCells234 from ⟨by simp, hz, by rw [List.drop_of_length_le (by simp [hz])]; rfl, by unfold hexL; split <;> (try split) <;> (try split) <;> (try unfold hexK) <;> (try split) <;> (try split) <;> omega⟩)
  generalize Tryz.zeroCells234 = cs0 at hblk hbel HF hz ⊢
  clear hz
  go_loopg [1, 13] 6 (fun gk v1 v13 wx => ∃ (j x p : Nat) (cs : Array Value), v1 = .int .u64 x ∧ v13 = .int .i64 p ∧ Blk wx w.heap.size 234 cs ∧ Hid (FmtAt n j x cs) ∧ Hid (j + gk = 6) ∧ Hid (p + j = 65) ∧ x ≤ 1114111 ∧ p ≤ 65 ∧ 60 ≤ p ∧ Below w.heap.size w wx)
  case atStart => exact ⟨0, n, 65, _, rfl, rfl, hblk, HF, Lib.hid rfl, Lib.hid rfl, h1, by omega, by omega, hbel⟩
  case round =>
    clear hblk hbel HF
    obtain ⟨j, x, p, cs, rfl, rfl, hblk, HF, HG, HP, hx, hp1, hp2, hbel⟩ := hrel
    by_cases hc : 16 ≤ x
    · obtain ⟨q, d, hd, h16⟩ : ∃ q d, x = 16 * q + d ∧ d < 16 := ⟨x / 16, x % 16, by omega, by omega⟩
      have hand : bits BinOp.and IntKind.u64 (x : Int) 15 = (d : Int) := by
        have h := bits_and_u64_nat x 15 (by omega) (by omega)
        refine h.trans ?_
        rw [show (15 : Nat) = 2 ^ 4 - 1 from rfl, Nat.and_two_pow_sub_one_eq_mod]; omega
      have hf := hblk.frozen (p - 1)
      obtain ⟨v0, hv0⟩ : ∃ v0, cs[p - 1]? = some v0 := ⟨_, Array.getElem?_eq_getElem (by have := HF.out.2.1; omega)⟩
      have hc0 : wr.cell? ⟨w.heap.size, p - 1, none⟩ = some v0 := (hblk.cell _).trans hv0
      have Hd := Lib.hid hd
      clear hd hv0
      have HN := Lib.hid (fmt_next HF.out h1 HP.out Hd.out h16 hc)
      have hj5 : p - 1 + (j + 1) = 65 := by have := HP.out; omega
      have Hj5 := Lib.hid hj5
      have hp3 : 61 ≤ p := by have := HN.out.2.2.2; have := hexL_bd n; omega
      obtain ⟨g', rfl⟩ : ∃ g', gk = g' + 1 := ⟨gk - 1, by have := HG.out; have := HN.out.2.2.2; have := hexL_bd n; omega⟩
      clear hj5
      go_wp2
      go_roundg g'
      case rel =>
        refine ⟨j + 1, q, p - 1, _, v_u64 (by have := Hd.out; omega), by go_num, hblk.set_ _ _, ?_, Lib.hid (by have := HG.out; omega), Hj5, by have := Hd.out; omega, by omega, by omega, hbel.setCell (p := ⟨w.heap.size, p - 1, none⟩) (by simp) _⟩
        rw [v_u8 (congrArg (fun z : UInt8 => (z.toNat : Int)) (dig_eq d h16 _))]
        exact HN
      case measure => omega
    · have hf := hblk.frozen (p - 1)
      obtain ⟨v0, hv0⟩ : ∃ v0, cs[p - 1]? = some v0 := ⟨_, Array.getElem?_eq_getElem (by have := HF.out.2.1; omega)⟩
      have hc0 : wr.cell? ⟨w.heap.size, p - 1, none⟩ = some v0 := (hblk.cell _).trans hv0
      have hsl := sl65 w.heap.size p hp2 hp1
      have HE := Lib.hid (fmt_end HF.out HP.out (by omega))
      clear hv0
      go_wp2
      rw [v_u8 (congrArg (fun z : UInt8 => (z.toNat : Int)) (dig_eq x (by omega) _))]
      have hB := hblk.set_ (p - 1) (.int .u8 ((lowD x).toNat : Int))
      have hl : (lowS n).length = 66 - p := by have h9 := HE.out.1; have := HP.out; unfold lowS; rw [lowW_len]; omega
      have hcv := run_convert_bytes_back (P := Tryz.prog) (wr.setCell ⟨w.heap.size, p - 1, none⟩ (.int .u8 ((lowD x).toNat : Int))) 66 9 5 ⟨w.heap.size, p - 1, none⟩ (66 - p) (lowS n) Tryz.underlying66 Tryz.underlying5 Tryz.underlying9 (fun k hk => by
        have e : (⟨w.heap.size, p - 1, none⟩ : Addr).add k = ⟨w.heap.size, p - 1 + k, none⟩ := by
          unfold Addr.add
          split
          · rename_i h0; rw [h0, Nat.add_zero]
          · rfl
        rw [e, hB.cell, HE.out.2 k hk])
      rw [hl] at hcv
      rw [hcv]
      simp only [Result.andThen]
      rw [Oper.upon_value]
      go_wp2
      go_ret2
      exact ⟨rfl, hbel.setCell (p := ⟨w.heap.size, p - 1, none⟩) (by simp) _⟩
theorem iFormat_any (n : Nat) (w : World) (h1 : n ≤ 1114111) (hT : TabB w) :
    Calls Tryz.prog 147 #[.int .i64 n, .int .i64 16] w fun e w' => e = .returned (.string ⟨(lowS n).toArray⟩) ∧ Below w.heap.size w w' := by
  go_enter Tryz.func147, Tryz.ntmps147
  go_wp2_with fail
  refine (fbits_any n _ h1 hT).mono ?_
  rintro e w' ⟨rfl, hb⟩
  go_wp2
  go_ret
  exact ⟨rfl, hb⟩
theorem lFormat_any (n : Nat) (w : World) (h1 : n ≤ 1114111) (hT : TabB w) :
    Calls Tryz.prog 117 #[.int .i64 n, .int .i64 16] w fun e w' => e = .returned (.string ⟨(lowS n).toArray⟩) ∧ Below w.heap.size w w' := by
  go_enter Tryz.func117, Tryz.ntmps117
  go_wp2_with fail
  refine (iFormat_any n _ h1 hT).mono ?_
  rintro e w' ⟨rfl, hb⟩
  go_wp2
  go_ret
  exact ⟨rfl, hb⟩
end Go.Proofs.YtejccafolfeabaaGreatDoor

/-
  props.New, walked.
-/
namespace Go.Proofs.YtejccafolfeabaaGreatDoor
open Go.RowKit Go.Maps

/-- What the library's own variables hold. -/
structure Env (w : World) : Prop where
  tabs : Tabs w
  max : MaxW w
  tabB : TabB w
theorem Env.below {w w' : World} (h : Env w) (hb : Below w.heap.size w w') : Env w' := ⟨h.tabs.below hb, h.max.below hb, cell_keep h.tabB hb⟩

theorem wpList_insert_own {H : Type} {P : Program} (w : World) {ops : Array Oper} {rest : List Oper} {o : Oper} {a : Act} {Q : Exit → Act → World → Prop}
    (hg : o.guard = none) (m x v : Operand) (t : TypeId) (hop : o.op = Op.insert t m x v)
    (k e : TypeId) (K : Keyed P k) (ht : P.underlying t = some (.map k e)) (R : Value → Option (DataW H × List MemPlace)) (b n : Nat) (D : DataW H)
    (hm : a.eval m = .map (some b)) (hown : w.ownsMap P k R b n D) (hn : n < maxLen) (key val : Value) (kl : Lit) (hx : a.eval x = key) (hv : a.eval v = val) (hkey : keyOf P k key = some kl)
    (d : DataW H) (ps : List MemPlace) (hval : R val = some (d, ps))
    (hK : ∀ w', w'.ownsMap P k R b (n + 1) (D.put kl d) → w.grownBy w' (some b) → wpList P ops Q rest (a.put o.dst undef) w') :
    wpList P ops Q (o :: rest) a w := by
  refine wpList_plain hg fun K' hK' => ?_
  obtain ⟨w', hrun, r1, r2⟩ := hown.update K ht hn hkey hval
  unfold Oper.wp
  simp [execOp, hop, hm, hx, hv, hrun, Result.andThen]
  exact hK' _ _ (hK w' r1 r2)

theorem mem_lenL : ∀ {L : List (List UInt8)} {l : List UInt8}, l ∈ L → l.length + 1 ≤ lenL L
  | [], l, h => by simp at h
  | a :: L, l, h => by
    rcases List.mem_cons.1 h with rfl | h
    · simp only [lenL]; omega
    · have := mem_lenL h; simp only [lenL]; omega
theorem line_len {t : List UInt8} {i : Nat} {l : List UInt8} (h : (splitL t)[i]? = some l) : l.length ≤ t.length := by
  have := mem_lenL (List.mem_of_getElem? h); rw [split_len] at this; omega
theorem addL_err {d : DbP} {n s : List UInt8} {k : Int} (h : addL d n s = .error k) : 6 ≤ k := by
  unfold addL at h
  split at h
  · injection h with h; omega
  · split at h
    · rename_i e he
      injection h with h; subst h
      unfold parseE at he
      split at he
      · rename_i y hy
        injection he with he
        have := parse_code hy; omega
      · cases he
    · split at h
      · split at h
        · injection h with h; omega
        · cases h
      · split at h
        · injection h with h; omega
        · split at h
          · injection h with h; omega
          · cases h
theorem addS_err {d : DbP} {u : List UInt8} {k : Int} (h : addS d u = .error k) : 6 ≤ k := by
  unfold addS at h
  split at h
  · injection h with h; omega
  · exact addL_err h
theorem lineU_len (l : List UInt8) : (lineU l).length ≤ l.length := by
  unfold lineU
  refine Nat.le_trans (trimL_len _) ?_
  rw [List.length_take]; omega

/-- What New leaves. -/
def NewEnd (r : Except (Int × Nat) DbP) (e : Ending) (w' : World) : Prop :=
  match r with
  | .error x => e = .returned (.tuple #[.pointer none, .int .i64 x.1, .int .i64 (x.2 : Int)])
  | .ok d => ∃ p, e = .returned (.tuple #[.pointer (some ⟨p, 0, none⟩), .int .i64 0, .int .i64 0]) ∧ DbAt w' p d
theorem NewEnd.err {r : Except (Int × Nat) DbP} {k : Int} {i : Nat} {w' : World} (h : r = .error (k, i)) : NewEnd r (.returned (.tuple #[.pointer none, .int .i64 k, .int .i64 (i : Int)])) w' := by rw [h]; exact rfl
theorem NewEnd.fine {r : Except (Int × Nat) DbP} {d : DbP} {p : Nat} {w' : World} (h : r = .ok d) (hd : DbAt w' p d) : NewEnd r (.returned (.tuple #[.pointer (some ⟨p, 0, none⟩), .int .i64 0, .int .i64 0])) w' := by rw [h]; exact ⟨p, rfl, hd⟩

theorem own_one {w : World} {t : TypeId} {u : Value} {base : Nat} (hb : base ≤ w.heap.size) : Own (w.alloc (.cells #[u] t)) base t 1 (some ⟨w.heap.size, 0, none⟩) 1 1 [[u]] :=
  ⟨rfl, by simp, by simp, .inr ⟨w.heap.size, 1, #[u], rfl, hb, heap_alloc_new _ _, Nat.le_refl _, by unfold maxLen; omega, rfl, by simp⟩⟩

/-- The database that New begins with. -/
theorem dbX_first {w w2 : World} {D : DataW Unit} (hD : D = (DataW.map []).put (.string otherL) (.lit (.int .i64 0)))
    (hown : w2.ownsMap Tryz.prog 9 (plainElem (H := Unit) Tryz.prog 3) (w.heap.size + 1) 1 D) (hg : ((w.alloc (.cells #[.string (bytesOf otherL)] 9)).alloc (.map #[] 0)).grownBy w2 (some (w.heap.size + 1))) :
    DbX ((w2.alloc (.cells #[.slice none 0 0] 37)).alloc (.cells #[.slice (some ⟨w.heap.size, 0, none⟩) 1 1, .map (some (w.heap.size + 1)), .slice (some ⟨w2.heap.size, 0, none⟩) 1 1, .slice none 0 0] 70)) w.heap.size (w2.heap.size + 1) (w2.heap.size + 2)
      (some ⟨w.heap.size, 0, none⟩) 1 1 (w.heap.size + 1) 1 D (some ⟨w2.heap.size, 0, none⟩) 1 1 [(none, 0, 0)] [otherL] [[]] ∧
    Below w.heap.size w ((w2.alloc (.cells #[.slice none 0 0] 37)).alloc (.cells #[.slice (some ⟨w.heap.size, 0, none⟩) 1 1, .map (some (w.heap.size + 1)), .slice (some ⟨w2.heap.size, 0, none⟩) 1 1, .slice none 0 0] 70)) := by
  have hs2 := hg.size
  simp at hs2
  have n1 : Own (w.alloc (.cells #[.string (bytesOf otherL)] 9)) w.heap.size 9 1 (some ⟨w.heap.size, 0, none⟩) 1 1 ([otherL].map encNm) := own_one (Nat.le_refl _)
  have n2 := ((n1.alloc (.map #[] 0)).grown hg (fun a ha e => by injection ha with ha; subst ha; injection e with e; simp only at e; omega))
  have s3 : Own (w2.alloc (.cells #[.slice none 0 0] 37)) w.heap.size 37 1 (some ⟨w2.heap.size, 0, none⟩) 1 1 ([((none : Option Addr), 0, 0)].map encSl) := own_one (by omega)
  refine ⟨⟨?_, by omega, (n2.alloc _).alloc _, (hown.alloc _).alloc _, Nat.le_refl _, by omega, ?_, s3.alloc _, ⟨rfl, ?_⟩, by omega, by omega, fun a ha => by injection ha with ha; subst ha; show w.heap.size ≠ w2.heap.size + 2; omega, fun a ha => by injection ha with ha; subst ha; show w2.heap.size ≠ w2.heap.size + 2; omega⟩, ?_⟩
  · have := Blk.new (w2.alloc (.cells #[.slice none 0 0] 37)) 70 #[.slice (some ⟨w.heap.size, 0, none⟩) 1 1, .map (some (w.heap.size + 1)), .slice (some ⟨w2.heap.size, 0, none⟩) 1 1, .slice none 0 0]
    simpa using this
  · rw [hD]; exact MapIs.nil_.put otherL rfl
  · intro k x l hx hl
    match k, hx, hl with
    | 0, hx, hl => simp at hx hl; subst hx; subst hl; exact Own.nil_ _ _ _ _
    | k + 1, hx, hl => simp at hx
  · have h1 : Below w.heap.size w ((w.alloc (.cells #[.string (bytesOf otherL)] 9)).alloc (.map #[] 0)) := ((Below.refl _ _).alloc (Nat.le_refl _) _).alloc (by simp) _
    have h2 := h1.grown hg (by simp; omega) (fun k hk => by injection hk with hk; omega)
    exact (h2.alloc (by omega) _).alloc (by simp; omega) _

set_option maxRecDepth 100000 in
set_option maxHeartbeats 8000000 in
theorem wNew_any (t : List UInt8) (w : World) (hE : Env w) (ht : t.length ≤ maxLen) :
    Calls Tryz.prog 13 #[.string (bytesOf t)] w fun e w' => NewEnd (newP t) e w' ∧ Below w.heap.size w w' := by
  have hsz : (bytesOf t).size = t.length := bytesOf_size t
  have hmm := @run_makeMap Tryz.prog
  unfold maxLen at ht
  by_cases hl : 65536 < t.length
  · have HE := Lib.hid (newP_long hl)
    go_enter Tryz.func13, Tryz.ntmps13
    go_wp2
    go_ret3
    exact ⟨NewEnd.err HE.out, Below.refl _ _⟩
  · have HG := Lib.hid (newP_go hl)
    obtain ⟨m, hm⟩ := hE.max
    have Hm := Lib.hid hm
    clear hm
    go_enter Tryz.func13, Tryz.ntmps13
    have hkey : keyOf Tryz.prog 9 (.string ⟨#[79, 116, 104, 101, 114]⟩) = some (.string otherL) := keyS (n := otherL) (by decide)
    have ho0 := World.ownsMap_made (H := Unit) (w.alloc (.cells #[.string (bytesOf otherL)] 9)) Tryz.prog 9 (plainElem (H := Unit) Tryz.prog 3)
    rw [show (w.alloc (.cells #[.string (bytesOf otherL)] 9)).heap.size = w.heap.size + 1 by simp] at ho0
    go_wp2_with ((refine wpList_insert_own _ rfl _ _ _ 67 rfl 9 3 keyedS Tryz.underlying67 _ (w.heap.size + 1) 0 (.map []) rfl ho0 (by unfold maxLen; omega) _ _ (.string otherL) rfl rfl hkey _ [] (plainElem_int Tryz.underlying3 (WalkArith.wf_i64 (by omega))) ?_; intro w2 hown2 hg2))
    have hF := dbX_first rfl hown2 hg2
    have hg2s := hg2.size
    obtain ⟨hX, hB0⟩ := hF
    have hsx : w2.heap.size + 2 = (((w2.alloc (.cells #[.slice none 0 0] 37)).alloc (.cells #[.slice (some ⟨w.heap.size, 0, none⟩) 1 1, .map (some (w.heap.size + 1)), .slice (some ⟨w2.heap.size, 0, none⟩) 1 1, .slice none 0 0] 70))).heap.size := by simp
    generalize ((w2.alloc (.cells #[.slice none 0 0] 37)).alloc (.cells #[.slice (some ⟨w.heap.size, 0, none⟩) 1 1, .map (some (w.heap.size + 1)), .slice (some ⟨w2.heap.size, 0, none⟩) 1 1, .slice none 0 0] 70)) = w3 at hX hB0 hsx ⊢
    rw [hsx] at hX
    have HS := Lib.hid (Tryz.strings_Split (bytesOf t) ⟨#[10]⟩ m w3 (by omega) (cell_keep Hm.out hB0) (show 1 ≤ 1 by omega))
    obtain ⟨L, HL⟩ : ∃ L, Hid (splitL t = L) := ⟨_, rfl⟩
    have hsp := split_lines (bytesOf t)
    have hc0 := Lib.splitB_all ⟨#[10]⟩ (show 1 ≤ 1 by omega) 0 _ (bytesOf t) rfl
    rw [bytesOf_list, HL.out, show bytesOf [10] = ⟨#[10]⟩ from rfl] at hsp
    generalize Lib.splitB ⟨#[10]⟩ 0 (Lib.countB (bytesOf t) ⟨#[10]⟩) (bytesOf t) = SP at HS hsp hc0
    have hcount : Lib.countB (bytesOf t) ⟨#[10]⟩ + 1 = L.length := by rw [← hc0, ← hsp, List.length_map]
    rw [hcount] at HS
    have HLl := Lib.hid (fun i l (h : L[i]? = some l) => line_len (t := t) (i := i) (l := l) (by rw [HL.out]; exact h))
    have HLn : Hid (L.length ≤ 65537) := Lib.hid (by rw [← HL.out, splitL_count]; have := List.count_le_length (a := (10 : UInt8)) (l := t); omega)
    have HSP : Hid (∀ i l, L[i]? = some l → SP[i]? = some (bytesOf l)) := Lib.hid (fun i l h => by
      rw [← hsp, List.getElem?_map] at h
      cases hq : SP[i]? with
      | none => rw [hq] at h; cases h
      | some s => rw [hq] at h; simp at h; rw [← h, bytesOf_data])
    have HNP : Hid (newP t = linesGo DbP.first L 0) := Lib.hid (by rw [HG.out, HL.out])
    have hX4 := hX.below ((Below.refl _ _).alloc (Nat.le_refl _) (.cells (SP.map Value.string).toArray 9))
    have hB4 : Below w.heap.size w (w3.alloc (.cells (SP.map Value.string).toArray 9)) := hB0.alloc (by have := hB0.size; omega) _
    have hb4 := Blk.new w3 9 (SP.map Value.string).toArray
    have hx4 : w3.heap.size < (w3.alloc (.cells (SP.map Value.string).toArray 9)).heap.size := by simp
    refine HS.out.mono ?_
    rintro e w4 ⟨rfl, rfl⟩
    clear hX hB0 HS HG HL hc0 hsp hcount Hm hown2 hg2 hg2s hsx ho0 hmm hkey
    generalize w3.alloc (.cells (SP.map Value.string).toArray 9) = w4 at hX4 hB4 hb4 hx4 ⊢
    generalize w3.heap.size = x at hX4 hb4 hx4 ⊢
    generalize w2.heap.size + 1 = p at hX4 ⊢
    have hsw := hB4.size
    have HCell : Hid (∀ i l, L[i]? = some l → w4.cell? ⟨x, i, none⟩ = some (.string (bytesOf l))) := Lib.hid (fun i l h => by
      rw [hb4.cell i]; have := HSP.out i l h; simp [this])
    clear hb4 HSP
    go_wp2_with fail
    go_loopw [21] (fun v wr => ∃ (i : Nat) (d : DbP), v = .int .i64 i ∧ i ≤ L.length ∧ DbB wr w.heap.size p x d ∧ wr.heap[x]? = w4.heap[x]? ∧ Hid (NewAt L i d) ∧ Below w.heap.size w wr ∧ x < wr.heap.size) (fun v _ => L.length - (intOf v).toNat)
    case atStart => exact ⟨0, DbP.first, rfl, by omega, ⟨_, _, _, _, _, _, _, _, _, _, hX4⟩, rfl, newAt_first L, hB4, hx4⟩
    case round =>
      clear hX4
      obtain ⟨i, d, rfl, hi, hd, hxr, HN, hb, hxl⟩ := hrel
      have hszr := hb.size
      by_cases hlt : i < L.length
      · obtain ⟨l, Hl⟩ : ∃ l, Hid (L[i]? = some l) := ⟨_, Lib.hid (List.getElem?_eq_getElem hlt)⟩
        have hcell : wr.cell? ⟨x, i, none⟩ = some (.string (bytesOf l)) := (World.cell?_of_block hxr).trans (HCell.out i l Hl.out)
        have hll := HLl.out i l Hl.out
        have hlu := lineU_len l
        have HW := Lib.hid (wline_any (bytesOf l) wr (hE.tabs.below (hb.mono (Nat.le_refl _))) (by rw [bytesOf_size]; omega))
        rw [bytesOf_list] at HW
        have HN2 := HLn.out
        by_cases hu : lineU l = []
        · have hem : (bytesOf (lineU l)).toList.isEmpty = true := by rw [ByteArray.toList_eq, bytesOf_list, hu]; rfl
          have HN' := Lib.hid (newAt_next HN.out Hl.out (step_nil hu))
          clear hu
          go_wp2_with (go_at_call 36; refine HW.out.mono ?_; rintro e w5 ⟨rfl, hb5⟩)
          go_roundw
          case rel => exact ⟨i + 1, d, by go_num, by omega, hd.below hb5, (hb5.block x hxl).trans hxr, HN', below_step hb hb5 hszr, Nat.lt_of_lt_of_le hxl hb5.size⟩
          case measure => simp [intOf]; omega
        · have hem : (bytesOf (lineU l)).toList.isEmpty = false := by
            rw [ByteArray.toList_eq, bytesOf_list]
            cases hq : lineU l with
            | nil => exact absurd hq hu
            | cons a b => rfl
          have HST := Lib.hid (step_add (d := d) hu)
          clear hu
          go_wp2_with fail
          refine HW.out.mono ?_
          rintro e w5 ⟨rfl, hb5⟩
          have hb5w := below_step hb hb5 hszr
          have hx5 := Nat.lt_of_lt_of_le hxl hb5.size
          have hxr5 := (hb5.block x hxl).trans hxr
          have HA := Lib.hid (wadd_any p w.heap.size x d (lineU l) w5 (hd.below hb5) HN.out.2.2.1 hx5 hb5w.size (hE.tabs.below hb5w) (hE.max.below hb5w) (by omega))
          go_wp2_with fail
          refine HA.out.mono ?_
          rintro e w6 ⟨hk, hae⟩
          have hb6 := hb5w.trans hk.1
          cases hs : addS d (lineU l) with
          | error k =>
            rw [hs] at hae HST
            have he : e = .returned (.int .i64 k) := hae
            subst he
            have hk0 : ((k : Int) != 0) = true := by rw [bne_iff_ne]; have := addS_err hs; omega
            have HE := Lib.hid (HNP.out.trans (newAt_err HN.out Hl.out HST.out))
            clear hs hae
            go_wp2
            go_ret3
            exact ⟨NewEnd.err HE.out, hb6⟩
          | ok d' =>
            rw [hs] at hae HST
            obtain ⟨rfl, hd'⟩ := hae
            have HN' := Lib.hid (newAt_next HN.out Hl.out HST.out)
            clear hs
            go_wp2
            go_roundw
            case rel => exact ⟨i + 1, d', by go_num, by omega, hd', (hk.2 hx5).trans hxr5, HN', hb6, Nat.lt_of_lt_of_le hx5 hk.1.size⟩
            case measure => simp [intOf]; omega
      · have HE := Lib.hid (HNP.out.trans (newAt_end HN.out hlt))
        have HC := Lib.hid (wclose_any p w.heap.size x d wr hd HN.out.2.2.1 HN.out.2.2.2 hszr)
        go_wp2_with (go_at_call 38; refine HC.out.mono ?_; rintro e w5 ⟨rfl, hda, hb5⟩)
        go_ret3
        exact ⟨NewEnd.fine HE.out hda, hb.trans hb5⟩
end Go.Proofs.YtejccafolfeabaaGreatDoor

/-
  props: Names, Set, Ranged, Of, walked.
-/
namespace Go.Proofs.YtejccafolfeabaaGreatDoor
open Go.RowKit Go.Maps

set_option maxRecDepth 100000 in
set_option maxHeartbeats 1000000 in
theorem wNames_any (p : Nat) (d : DbP) (w : World) (h : DbAt w p d) (ho : d.Ok) :
    Calls Tryz.prog 17 #[.pointer (some ⟨p, 0, none⟩)] w fun e w' => ∃ A n c, e = .returned (.slice A n c) ∧ Own w' w.heap.size 9 1 A n c (d.names.map encNm) ∧ Below w.heap.size w w' := by
  obtain ⟨An, nn, cn, bm, nm, D, As, ns, cs, xs, Ar, nr, cr, hp, hn, _⟩ := h.ex
  have hl : d.names.length = nn := by simpa using hn.len
  have hrd := hn.rd (by omega)
  have hk : nn ≤ 4000000 := by have := ho.few; omega
  have HC := Lib.hid (cloneS_any An nn cn d.names w hrd hl hk)
  have c0 := hp.cell 0
  simp at c0
  clear hl
  go_enter Tryz.func17, Tryz.ntmps17
  go_wp2_with (go_at_call 47; refine HC.out.mono ?_; rintro e w1 ⟨A', c', rfl, ho1, hb1⟩)
  go_ret
  exact ⟨_, _, _, rfl, ho1, hb1⟩
set_option maxRecDepth 100000 in
theorem wNames_nil (w : World) : Calls Tryz.prog 17 #[.pointer none] w fun e w' => e = .returned (.slice none 0 0) ∧ w' = w := by
  go_enter Tryz.func17, Tryz.ntmps17
  go_wp2
  go_ret
  exact ⟨rfl, rfl⟩
set_option maxRecDepth 100000 in
set_option maxHeartbeats 1000000 in
theorem wRanged_any (p : Nat) (d : DbP) (w : World) (h : DbAt w p d) (ho : d.Ok) (ha : Apart d.sets) :
    Calls Tryz.prog 34 #[.pointer (some ⟨p, 0, none⟩)] w fun e w' => ∃ A n c, e = .returned (.slice A n c) ∧ Own w' w.heap.size 82 3 A n c (d.rng.map encD) ∧ Below w.heap.size w w' := by
  obtain ⟨An, nn, cn, bm, nm, D, As, ns, cs, xs, Ar, nr, cr, hp, _, _, _, _, _, hn⟩ := h.ex
  have hl : d.rng.length = nr := by simpa using hn.len
  have hrd := hn.rd (by omega)
  have hk : nr ≤ 4000000 := by have := (rng_len ho ha).1; omega
  have HC := Lib.hid (cloneD_any Ar nr cr d.rng w hrd hl hk)
  have c3 := hp.cell 3
  simp at c3
  clear hl
  go_enter Tryz.func34, Tryz.ntmps34
  go_wp2_with (go_at_call 65; refine HC.out.mono ?_; rintro e w1 ⟨A', c', rfl, ho1, hb1⟩)
  go_ret
  exact ⟨_, _, _, rfl, ho1, hb1⟩
set_option maxRecDepth 100000 in
theorem wRanged_nil (w : World) : Calls Tryz.prog 34 #[.pointer none] w fun e w' => e = .returned (.slice none 0 0) ∧ w' = w := by
  go_enter Tryz.func34, Tryz.ntmps34
  go_wp2
  go_ret
  exact ⟨rfl, rfl⟩

theorem full_small {d : DbP} (h : d.Ok) (ha : Apart d.sets) {k : Nat} {s : List (Int × Int)} (hk : d.full[k]? = some s) : s.length ≤ 1114112 := by
  have h1 := full_lenS h ha
  obtain ⟨hlt, e⟩ := List.getElem?_eq_some_iff.1 hk
  have hd : d.full = d.full.take k ++ s :: d.full.drop (k + 1) := by rw [← e, ← List.drop_eq_getElem_cons hlt, List.take_append_drop]
  rw [hd, lenS_append] at h1
  have : lenS (s :: d.full.drop (k + 1)) = s.length + lenS (d.full.drop (k + 1)) := rfl
  omega
theorem full_len' {d : DbP} (h : d.Ok) : d.full.length = d.names.length := full_len h
/-- The set of a number; none where there is none. -/
def DbP.setI (d : DbP) (k : Int) : List (Int × Int) := if 0 ≤ k then d.full.getD k.toNat [] else []
set_option maxRecDepth 100000 in
set_option maxHeartbeats 1000000 in
theorem wSet_any (p : Nat) (d : DbP) (k : Int) (w : World) (h : DbAt w p d) (ho : d.Ok) (ha : Apart d.sets) :
    Calls Tryz.prog 18 #[.pointer (some ⟨p, 0, none⟩), .int .i64 k] w fun e w' => ∃ A n c, e = .returned (.slice A n c) ∧ Own w' w.heap.size 80 2 A n c ((d.setI k).map encR) ∧ Below w.heap.size w w' := by
  obtain ⟨An, nn, cn, bm, nm, D, As, ns, cs, xs, Ar, nr, cr, hp, hnm, _, _, hs, hx, _⟩ := h.ex
  have hlf : d.full.length = ns := by have := hs.len; rw [← hx.len]; simpa using this
  have Hlf := Lib.hid hlf
  have HF := Lib.hid (fun i s (hi : d.full[i]? = some s) => full_small ho ha hi)
  have c2 := hp.cell 2
  simp at c2
  clear ho ha h hlf
  rcases (by omega : k < 0 ∨ (0 ≤ k ∧ (ns : Int) ≤ k) ∨ (0 ≤ k ∧ k < ns)) with h1 | ⟨h1, h2⟩ | ⟨h1, h2⟩
  · have HE : Hid (d.setI k = []) := Lib.hid (if_neg (by omega))
    go_enter Tryz.func18, Tryz.ntmps18
    go_wp2
    go_ret
    exact ⟨none, 0, 0, rfl, by rw [HE.out]; exact Own.nil_ _ _ _ _, Below.refl _ _⟩
  · have HE : Hid (d.setI k = []) := Lib.hid (by unfold DbP.setI; rw [if_pos h1, List.getD_eq_getElem?_getD, List.getElem?_eq_none (by have := Hlf.out; omega)]; rfl)
    go_enter Tryz.func18, Tryz.ntmps18
    go_wp2
    go_ret
    exact ⟨none, 0, 0, rfl, by rw [HE.out]; exact Own.nil_ _ _ _ _, Below.refl _ _⟩
  · obtain ⟨i, rfl⟩ : ∃ i : Nat, k = i := ⟨k.toNat, by omega⟩
    have hi : i < ns := by omega
    obtain ⟨s, Hs⟩ : ∃ s, Hid (d.full[i]? = some s) := ⟨_, Lib.hid (List.getElem?_eq_getElem (by have := Hlf.out; omega))⟩
    obtain ⟨x, Hx⟩ : ∃ x, Hid (xs[i]? = some x) := ⟨_, Lib.hid (List.getElem?_eq_getElem (by have := Hlf.out; have := hx.len; omega))⟩
    have hox := hx.own i x s Hx.out Hs.out
    obtain ⟨A, n, c⟩ := x
    have HE : Hid (d.setI (i : Int) = s) := Lib.hid (by unfold DbP.setI; rw [if_pos (by omega), List.getD_eq_getElem?_getD, show ((i : Int).toNat) = i by omega, Hs.out]; rfl)
    have hsl : s.length = n := by simpa using hox.len
    have HC := Lib.hid (cloneR_any A n c s w (hox.rd (by omega)) hsl (by have := HF.out i s Hs.out; omega))
    obtain ⟨g, rfl, _, _⟩ := hs.form (by omega)
    have hcell := hs.cell (k := i) (j := 0) (x := encSl (A, n, c)) (u := .slice A n c) (by rw [List.getElem?_map, Hx.out]; rfl) rfl
    simp only [Nat.mul_one, Nat.add_zero] at hcell
    clear hsl hox
    go_enter Tryz.func18, Tryz.ntmps18
    go_wp2_with (go_at_call 48; refine HC.out.mono ?_; rintro e w1 ⟨A', c', rfl, ho1, hb1⟩)
    go_ret
    exact ⟨_, _, _, rfl, by rw [HE.out]; exact ho1, hb1⟩
set_option maxRecDepth 100000 in
theorem wSet_nil (v : Value) (w : World) : Calls Tryz.prog 18 #[.pointer none, v] w fun e w' => e = .returned (.slice none 0 0) ∧ w' = w := by
  go_enter Tryz.func18, Tryz.ntmps18
  go_wp2
  go_ret
  exact ⟨rfl, rfl⟩
set_option maxRecDepth 100000 in
theorem wGet_nil (v : Value) (w : World) : Calls Tryz.prog 22 #[.pointer none, v] w fun e w' => e = .returned (.int .i64 0) ∧ w' = w := by
  go_enter Tryz.func22, Tryz.ntmps22
  go_wp2
  go_ret
  exact ⟨rfl, rfl⟩

/-- The classes of a text's runes. -/
def ofC (d : DbP) (s : ByteArray) : List Nat := (runesP s).map fun x => d.get (x.1 : Int)
def encN (x : Nat) : List Value := [.int .i64 (x : Int)]
theorem encN_ok (l : List Nat) : ∀ y ∈ l.map encN, y.length = 1 ∧ ∀ u ∈ y, u.oneCell' = true := by
  intro y hy; obtain ⟨r, _, rfl⟩ := List.mem_map.1 hy
  exact ⟨rfl, by simp [encN, Value.oneCell']⟩
/-- How far Of has come. -/
def OfCAt (d : DbP) (s : ByteArray) (f p : Nat) (o : List Nat) : Prop := (o ++ (runesGo s f p).map fun x => d.get (x.1 : Int)) = ofC d s ∧ s.size ≤ p + f ∧ p ≤ s.size
theorem ofCAt_first (d : DbP) (s : ByteArray) : OfCAt d s s.size 0 [] := ⟨by rw [List.nil_append]; rfl, by omega, by omega⟩
theorem ofCAt_add {d : DbP} {s : ByteArray} {f p R W : Nat} {o : List Nat} (h : OfCAt d s f p o) (hp : p < s.size) (hd : Utf8.decode s p = (R, W)) (hw : 1 ≤ W ∧ p + W ≤ s.size) : ∃ g, OfCAt d s g (p + W) (o ++ [d.get (R : Int)]) := by
  obtain ⟨g, rfl, hg⟩ := runesGo_step (s := s) (f := f) hp h.2.1
  rw [hd] at hg
  refine ⟨g, ?_, by have := h.2.1; omega, hw.2⟩
  rw [← h.1, hg]; simp
theorem ofCAt_end {d : DbP} {s : ByteArray} {f p : Nat} {o : List Nat} (h : OfCAt d s f p o) (hp : ¬ p < s.size) : o = ofC d s := by
  have := h.1
  rw [runesGo_end (by omega)] at this
  simpa using this

set_option maxRecDepth 100000 in
set_option maxHeartbeats 1000000 in
theorem wOf_any (p : Nat) (d : DbP) (s : ByteArray) (w : World) (h : DbAt w p d) (ho : d.Ok) (ha : Apart d.sets) (hs : s.size ≤ 1000000) :
    Calls Tryz.prog 27 #[.pointer (some ⟨p, 0, none⟩), .string s] w fun e w' => ∃ A n c, e = .returned (.slice A n c) ∧ Own w' w.heap.size 3 1 A n c ((ofC d s).map encN) ∧ Below w.heap.size w w' := by
  obtain ⟨i0, hi0, hz0, hz1, hz2⟩ := info_parts infoInt
  have HD := Lib.hid (And.intro h (And.intro ho ha))
  clear h ho ha
  go_enter Tryz.func27, Tryz.ntmps27
  go_wp2
  go_loopw [5] (fun v wr => ∃ (q f : Nat) (A1 : Option Addr) (n1 c1 : Nat) (o : List Nat), v = .slice A1 n1 c1 ∧ wr.heap[w.heap.size]? = some (.stringIter s q) ∧ Own wr (w.heap.size + 1) 3 1 A1 n1 c1 (o.map encN) ∧
      n1 ≤ q ∧ q ≤ s.size ∧ Hid (OfCAt d s f q o) ∧ Below w.heap.size w wr) (fun _ wr => s.size - wr.iterPos w.heap.size)
  case atStart => exact ⟨0, s.size, none, 0, 0, [], rfl, iter_new _ _ _, Own.nil_ _ _ _ _, by omega, by omega, ofCAt_first d s, below_iter (Below.refl _ _) (Nat.le_refl _) _ _⟩
  case round =>
    obtain ⟨q, f, A1, n1, c1, o, rfl, hit, ho, hn1, hps, HR, hb⟩ := hrel
    have hsz : w.heap.size < wr.heap.size := (Array.getElem?_eq_some_iff.1 hit).1
    have Hpos := Lib.hid (iterPos_of hit)
    by_cases hp : q < s.size
    · obtain ⟨⟨R, W⟩, HDc⟩ : ∃ d, Utf8.decode s q = d := ⟨_, rfl⟩
      have hd := dec_bd s q hp
      have hnx : ∀ ty, (Instr.next (.pointer (some ⟨w.heap.size, 0, none⟩)) true ty).run Tryz.prog wr = _ := fun ty => Lib.run_next_any_at wr w.heap.size s q ty hit hp
      have hit2 := Lib.iterAt_heap wr w.heap.size s q (q + (Utf8.decode s q).2) hit
      have hb2 := Lib.below_iterAt hb (k := w.heap.size) (Nat.le_refl _) s (q + (Utf8.decode s q).2)
      have ho2 := ho.iterAt (k := w.heap.size) (by omega) s (q + (Utf8.decode s q).2)
      have hsz2 : w.heap.size < (wr.iterAt w.heap.size s (q + (Utf8.decode s q).2)).heap.size := by rw [Lib.iterAt_size]; exact hsz
      rw [HDc] at hd hnx hit2 hb2 ho2 hsz2
      simp only at hd hnx hit2 hb2 ho2 hsz2
      obtain ⟨g, HA⟩ := ofCAt_add HR.out hp HDc (by omega)
      have HA := Lib.hid HA
      clear HR HDc
      generalize wr.iterAt w.heap.size s (q + W) = w2 at hnx hit2 hb2 ho2 hsz2
      have HG := Lib.hid (wGet_any p d R w2 (HD.out.1.below hb2) HD.out.2.1 HD.out.2.2)
      clear ho hb hit hsz
      go_wp2_with (first | (go_at_call 22; refine HG.out.mono ?_; rintro e w4 ⟨rfl, hb4⟩; have hit4 := (hb4.block _ hsz2).trans hit2; have ho4 := ho2.below hb4; have hbb := below_step hb2 hb4 hb2.size; have hsz4 := Nat.lt_of_lt_of_le hsz2 hb4.size; clear hit2 ho2 hb2) | (at_builtin; go_must (refine wpList_app rfl (.tmp 15) (.tmp 19) _ rfl (w.heap.size + 1) 3 i0 _ 1 8 Tryz.underlying46 hi0 hz0 hz1 hz2 rfl (by omega) A1 n1 c1 (o.map encN) rfl (ho4.alloc _) _ 1 1 [encN (d.get R)] rfl rfl (Rd.newAt (by simp) rfl) (encN_ok [d.get R]) (by unfold maxLen; omega) (by omega) (by simp; omega) ?_); intro A3 c3 w3 ho3 hg3 hA3; have hit3 := hg3.block w.heap.size (by simp; omega) (fun e => by cases A1 with | none => simp at e | some a => have := (ho4.lt a rfl).1; simp at e; omega); have hb3 := below_app (hbb.alloc (by omega) _) hg3 (by simp; omega) (fun a ha => by have := (ho4.lt a ha).1; omega); clear hg3))
      have hit5 : w3.heap[w.heap.size]? = some (.stringIter s (q + W)) := hit3.trans ((Below.heap_alloc _ _ _ hsz4).trans hit4)
      have Ho3 : Own w3 (w.heap.size + 1) 3 1 A3 (n1 + 1) c3 ((o ++ [d.get (R : Int)]).map encN) := by rw [List.map_append]; exact ho3
      clear hit3 ho3
      go_roundw
      case rel => exact ⟨q + W, g, A3, n1 + 1, c3, o ++ [d.get (R : Int)], rfl, hit5, Ho3, by omega, by omega, HA, hb3⟩
      case measure => rw [iterPos_of hit5, Hpos.out]; omega
    · have hnx : ∀ ty, (Instr.next (.pointer (some ⟨w.heap.size, 0, none⟩)) true ty).run Tryz.prog wr = _ := fun ty => Lib.run_next_end_at wr w.heap.size s q ty hit hp
      have HE := Lib.hid (ofCAt_end HR.out hp)
      go_wp2
      go_ret
      exact ⟨A1, n1, c1, rfl, by rw [← HE.out]; exact ho.more (by omega), hb⟩
set_option maxRecDepth 100000 in
theorem wOf_nil (v : Value) (w : World) : Calls Tryz.prog 27 #[.pointer none, v] w fun e w' => e = .returned (.slice none 0 0) ∧ w' = w := by
  go_enter Tryz.func27, Tryz.ntmps27
  go_wp2
  go_ret
  exact ⟨rfl, rfl⟩
end Go.Proofs.YtejccafolfeabaaGreatDoor

/-
  kerfref02.Hex: a rune's number in hexadecimal digits.
-/
namespace Go.Proofs.YtejccafolfeabaaGreatDoor
open Go.RowKit

theorem hexW_succ (j n : Nat) : hexW (j + 1) n = hexD (n / 16 ^ j % 16) :: hexW j n := by
  induction j generalizing n with
  | zero => simp [hexW]
  | succ j ih => rw [hexW, ih, hexW, Nat.div_div_eq_div_mul, ← Nat.pow_succ']; rfl
theorem digits_at (d : Nat) (h : d < 16) : ((⟨#[48, 49, 50, 51, 52, 53, 54, 55, 56, 57, 65, 66, 67, 68, 69, 70]⟩ : ByteArray).extract d (d + 1)).data.toList = [hexD d] := by
  rcases (by omega : d = 0 ∨ d = 1 ∨ d = 2 ∨ d = 3 ∨ d = 4 ∨ d = 5 ∨ d = 6 ∨ d = 7 ∨ d = 8 ∨ d = 9 ∨ d = 10 ∨ d = 11 ∨ d = 12 ∨ d = 13 ∨ d = 14 ∨ d = 15) with rfl | rfl | rfl | rfl | rfl | rfl | rfl | rfl | rfl | rfl | rfl | rfl | rfl | rfl | rfl | rfl <;> rfl
/-- How far Hex has come. -/
def HexAt (r j x : Nat) (t : ByteArray) : Prop := x = r / 16 ^ j ∧ t.data.toList = hexW j r ∧ j ≤ hexK r
theorem hexAt_next {r j x d q : Nat} {t : ByteArray} (h : HexAt r j x t) (hr : r ≤ 1114111) (hc : 0 < x ∨ j < 4) (hd : x = 16 * q + d) (h16 : d < 16) :
    HexAt r (j + 1) q ((⟨#[48, 49, 50, 51, 52, 53, 54, 55, 56, 57, 65, 66, 67, 68, 69, 70]⟩ : ByteArray).extract d (d + 1) ++ t) := by
  obtain ⟨rfl, h2, h3⟩ := h
  refine ⟨by rw [Nat.pow_succ, ← Nat.div_div_eq_div_mul]; omega, ?_, ?_⟩
  · rw [ByteArray.data_append, Array.toList_append, digits_at d h16, h2, hexW_succ]
    have : r / 16 ^ j % 16 = d := by omega
    rw [this]; rfl
  · unfold hexK at h3 ⊢
    rcases hc with hc | hc
    · rcases (by omega : j < 4 ∨ j = 4 ∨ j = 5 ∨ 6 ≤ j) with h | rfl | rfl | h
      · split <;> (try split) <;> omega
      · have : 0 < r / 65536 := hc
        split <;> (try split) <;> omega
      · have : 0 < r / 1048576 := hc
        split <;> (try split) <;> omega
      · have h7 : 16 ^ 6 ≤ 16 ^ j := Nat.pow_le_pow_right (by omega) h
        have h8 : (16 : Nat) ^ 6 = 16777216 := by decide
        have h6 : r / 16 ^ j = 0 := Nat.div_eq_of_lt (Nat.lt_of_lt_of_le (show r < 16 ^ 6 by rw [h8]; omega) h7)
        omega
    · split <;> (try split) <;> omega
theorem hexAt_end {r j : Nat} {t : ByteArray} (h : HexAt r j 0 t) (h4 : 4 ≤ j) : t = ⟨(hexS r).toArray⟩ := by
  obtain ⟨h1, h2, h3⟩ := h
  have hj : j = hexK r := by
    unfold hexK at h3 ⊢
    have hlt : r < 16 ^ j := by
      rcases Nat.lt_or_ge r (16 ^ j) with h | h
      · exact h
      · have := Nat.div_pos h (Nat.pow_pos (by decide : 0 < 16)); omega
    rcases (by omega : j = 4 ∨ j = 5 ∨ 6 ≤ j) with rfl | rfl | h
    · have : r < 65536 := hlt
      rw [if_pos this]
    · have : r < 1048576 := hlt
      split at h3
      · omega
      · rw [if_neg (by assumption), if_pos this]
    · have h9 : (if r < 65536 then 4 else if r < 1048576 then 5 else 6) ≤ 6 := by split <;> (try split) <;> omega
      have h10 : j = 6 := by omega
      subst h10
      by_cases h11 : r < 65536
      · rw [if_pos h11] at h3; omega
      · by_cases h12 : r < 1048576
        · rw [if_neg h11, if_pos h12] at h3; omega
        · rw [if_neg h11, if_neg h12]
  subst hj
  apply ByteArray.ext
  rw [← Array.toList_inj, h2]; rfl
theorem hexAt_len {r j x : Nat} {t : ByteArray} (h : HexAt r j x t) : t.size = j := by rw [← size_data, h.2.1, hexW_len]

set_option maxRecDepth 100000 in
set_option maxHeartbeats 1000000 in
theorem sHex_any (r : Nat) (w : World) (h1 : r ≤ 1114111) :
    Calls Tryz.prog 115 #[.int .i32 r] w fun e w' => e = .returned (.string ⟨(hexS r).toArray⟩) ∧ w = w' := by
  go_enter Tryz.func115, Tryz.ntmps115
  go_wp2
  go_loopg [0, 4] 7 (fun gk v0 v4 wx => wx = w ∧ ∃ (j x : Nat) (t : ByteArray), v0 = .int .i32 x ∧ v4 = .string t ∧ Hid (HexAt r j x t) ∧ Hid (j + gk = 7) ∧ x ≤ 1114111 ∧ t.size ≤ j ∧ j ≤ t.size ∧ j ≤ 6)
  case atStart => exact ⟨rfl, 0, r, _, rfl, rfl, Lib.hid ⟨by simp, rfl, by omega⟩, Lib.hid rfl, h1, by decide, by decide, by omega⟩
  case round =>
    obtain ⟨rfl, j, x, t, rfl, rfl, HX, HG, hx, ht1, ht2, hj⟩ := hrel
    have hk := HX.out.2.2
    by_cases hc : 0 < x ∨ j < 4
    · obtain ⟨q, d, hd, h16⟩ : ∃ q d, x = 16 * q + d ∧ d < 16 := ⟨x / 16, x % 16, by omega, by omega⟩
      have HN := Lib.hid (hexAt_next HX.out h1 hc hd h16)
      have hm : (x : Int) % 16 = (d : Int) := by omega
      have hq : (x : Int) / 16 = (q : Int) := by omega
      have hj6 : j < 6 := by
        have := HN.out.2.2
        have := hexK_bd r
        omega
      obtain ⟨g', hg'⟩ : ∃ g', gk = g' + 1 := ⟨gk - 1, by have := HG.out; omega⟩
      subst hg'
      clear hk
      have hx0 : x = 0 ∨ 0 < x := by omega
      rcases hx0 with hx0 | hx0
      · subst hx0
        obtain rfl : d = 0 := by omega
        obtain rfl : q = 0 := by omega
        clear hm hq hd
        rw [Nat.zero_add] at HN
        have h4 : j < 4 := by omega
        have h5 : t.size < 4 := by omega
        clear hc
        go_wp2
        go_roundg g'
        all_goals first
          | omega
          | exact ⟨rfl, j + 1, 0, _, rfl, rfl, HN, Lib.hid (by have := HG.out; omega), by omega, by have := hexAt_len HN.out; omega, by have := hexAt_len HN.out; omega, by omega⟩
      · clear hc hd
        go_wp2
        go_roundg g'
        all_goals first
          | omega
          | exact ⟨rfl, j + 1, q, _, rfl, rfl, HN, Lib.hid (by have := HG.out; omega), by omega, by have := hexAt_len HN.out; omega, by have := hexAt_len HN.out; omega, by omega⟩
    · have h4 : 4 ≤ t.size := by omega
      obtain rfl : x = 0 := by omega
      have HE := Lib.hid (hexAt_end HX.out (by omega))
      go_wp2
      go_ret
      exact ⟨by rw [HE.out]; rfl, rfl⟩
end Go.Proofs.YtejccafolfeabaaGreatDoor

/-
  strings.Builder: copyCheck, WriteString (the shelf's layings fall at this dump).
-/
namespace Go.Proofs.YtejccafolfeabaaGreatDoor
open Go.RowKit

theorem bldSize : (Tryz.prog.info? 90).map (·.size) = some 2 := by kernel_rfl
theorem bldLies : liesAt Tryz.prog Tryz.prog.depth 90 (2 / Tryz.prog.cellsOf 90) 0 90 1 = true := by kernel_rfl
theorem infoU8 : (Tryz.prog.info? 5).map (fun i => (i.zero, i.size, i.bytes)) = some (some (.int .u8 0), 1, 1) := by kernel_rfl

set_option maxRecDepth 100000 in
set_option maxHeartbeats 1000000 in
theorem copyCheck_fresh (b : Nat) (w : World) (h0 : w.cell? ⟨b, 0, none⟩ = some (.pointer none)) (hsh : w.shape? b = some (90, 2)) (hfz : w.frozen? ⟨b, 0, none⟩ = false) :
    Calls Tryz.prog 89 #[.pointer (some ⟨b, 0, none⟩)] w fun e w' => e = .returned (.tuple #[]) ∧ w.setCell ⟨b, 0, none⟩ (.pointer (some ⟨b, 0, none⟩)) = w' := by
  obtain ⟨j, hj, hjs⟩ := Option.map_eq_some_iff.1 bldSize
  go_enter Tryz.func89, Tryz.ntmps89
  go_wp2
  rw [Lib.run_to_unsafe w ⟨b, 0, none⟩ Tryz.underlying88 Tryz.underlying164 hj (by rw [hjs]; decide) hsh (Nat.zero_lt_succ 1)]
  simp only [Result.andThen]
  rw [Oper.upon_value]
  go_wp2
  rw [run_callFunc_extern Tryz.func120 (by kernel_rfl) (by kernel_rfl) (by kernel_rfl) (e := Extern.AbiNoEscape.same) (by kernel_rfl)]
  rw [Lib.run_noEscape]
  simp only [Result.andThen]
  rw [Oper.upon_value]
  go_wp2
  rw [Lib.run_from_unsafe w ⟨b, 0, none⟩ Tryz.underlying164 Tryz.underlying88 hj hsh bldLies]
  simp only [Result.andThen]
  rw [Oper.upon_value]
  go_wp2
  go_end0
  exact ⟨rfl, rfl⟩
set_option maxRecDepth 100000 in
set_option maxHeartbeats 1000000 in
theorem copyCheck_used (b : Nat) (w : World) (h0 : w.cell? ⟨b, 0, none⟩ = some (.pointer (some ⟨b, 0, none⟩))) :
    Calls Tryz.prog 89 #[.pointer (some ⟨b, 0, none⟩)] w fun e w' => e = .returned (.tuple #[]) ∧ w = w' := by
  obtain ⟨j, hj, _⟩ := Option.map_eq_some_iff.1 bldSize
  go_enter Tryz.func89, Tryz.ntmps89
  go_wp2
  rw [Lib.run_neq_ptr_same w _ Tryz.underlying88 hj]
  go_wp2
  go_end0
  exact ⟨rfl, rfl⟩
/-- A builder at block b that holds the bytes l; its row lies at B or beyond. -/
def Bld (w : World) (b B : Nat) (l : List UInt8) : Prop :=
  ∃ p v, (p = .pointer none ∨ p = .pointer (some ⟨b, 0, none⟩)) ∧ w.heap[b]? = some (.cells #[p, v] 90 (0, 0)) ∧ w.ownsRowF B 5 1 v l.length (Lib.byteCells l)
theorem Bld.new (w : World) (B : Nat) : Bld (w.alloc (.cells #[.pointer none, .slice none 0 0] 90)) w.heap.size B [] :=
  ⟨_, _, .inl rfl, heap_alloc_new w _, World.ownsRowF_nil _ _ _ _⟩
theorem Bld.lt {w : World} {b B : Nat} {l : List UInt8} (h : Bld w b B l) : b < w.heap.size := by
  obtain ⟨p, v, _, hb, _⟩ := h; exact (Array.getElem?_eq_some_iff.1 hb).1
theorem Bld.row_ne {w : World} {b B : Nat} {n : Nat} {xs : List Value} {cs : Array Value} {v : Value} (hown : w.ownsRowF B 5 1 v n xs) (hb : w.heap[b]? = some (.cells cs 90 (0, 0))) : v.ownBlock ≠ some b := Lib.ownBlock_neF hown hb (by decide)
theorem Bld.keep {w w' : World} {b B : Nat} {l : List UInt8} (h : Bld w b B l) (hs : ∀ (k : Nat) (o : Obj), w.heap[k]? = some o → o.isCells = true → k = b ∨ B ≤ k → w'.heap[k]? = some o) : Bld w' b B l := by
  obtain ⟨p, v, hp, hb, hown⟩ := h
  refine ⟨p, v, hp, hs b _ hb rfl (.inl rfl), hown.1, ?_⟩
  rcases hown.2 with h0 | ⟨g, cap, cur, fz, hv, hg, hh, r⟩
  · exact .inl h0
  · exact .inr ⟨g, cap, cur, fz, hv, hg, hs g _ hh rfl (.inr hg), r⟩
theorem Bld.below {w w' : World} {b B : Nat} {l : List UInt8} (h : Bld w b B l) (hb : Below w.heap.size w w') : Bld w' b B l := h.keep fun k _ hk _ _ => (hb.block k (Array.getElem?_eq_some_iff.1 hk).1).trans hk
theorem Bld.kept {w w' : World} {row : Option Nat} {b B : Nat} {l : List UInt8} (h : Bld w b B l) (hg : w.grownBy w' row) (hr : ∀ r, row = some r → ∃ o : Obj, w.heap[r]? = some o ∧ o.isCells = false) : Bld w' b B l :=
  h.keep fun k o hk hc _ => (hg.block k (Array.getElem?_eq_some_iff.1 hk).1 (by
    rintro rfl
    obtain ⟨o', h1, h2⟩ := hr k rfl
    rw [hk] at h1; cases h1; rw [hc] at h2; cases h2)).trans hk
theorem Bld.more {w : World} {b B B' : Nat} {l : List UInt8} (h : Bld w b B l) (hB : B' ≤ B) : Bld w b B' l := by
  obtain ⟨p, v, hp, hb, hown⟩ := h
  refine ⟨p, v, hp, hb, hown.1, ?_⟩
  rcases hown.2 with h0 | ⟨g, cap, cur, fz, hv, hg, r⟩
  · exact .inl h0
  · exact .inr ⟨g, cap, cur, fz, hv, by omega, r⟩
theorem Bld.is {w : World} {b B : Nat} {l : List UInt8} (h : Bld w b B l) (hB : b ≤ B) : Lib.IsBuilderF 90 5 b b (Lib.byteCells l) w := by
  obtain ⟨p, v, hp, hb, hown⟩ := h.more hB
  have hl : (Lib.byteCells l).length = l.length := Lib.byteCells_length l
  rcases hp with rfl | rfl
  · exact .inl ⟨Nat.le_refl _, v, hb, by rw [hl]; exact hown, Bld.row_ne hown hb⟩
  · exact .inr ⟨Nat.le_refl _, v, hb, by rw [hl]; exact hown, Bld.row_ne hown hb⟩
theorem bString_any (b B : Nat) (l : List UInt8) (w : World) (h : Bld w b B l) (hB : b ≤ B) :
    Calls Tryz.prog 55 #[.pointer (some ⟨b, 0, none⟩)] w fun e w' => e = .returned (.string ⟨l.toArray⟩) ∧ Below b w w' ∧ Lib.OthersKept 5 (some b) w w' :=
  (Tryz.Builder_String_any_k b b l w (h.is hB) (Nat.le_of_lt h.lt)).mono fun _ _ ⟨h1, _, h2, h3⟩ => ⟨h1, h2, h3⟩

set_option maxRecDepth 100000 in
set_option maxHeartbeats 1000000 in
theorem lWriteString_any (b B : Nat) (l : List UInt8) (s : ByteArray) (w : World) (h : Bld w b B l) (hbB : b < B) (hlen : l.length + s.size ≤ 140737488355328) (hBw : B ≤ w.heap.size) :
    Calls Tryz.prog 54 #[.pointer (some ⟨b, 0, none⟩), .string s] w fun e w' => e = .returned (.tuple #[.int .i64 s.size, .nilIface]) ∧ Bld w' b B (l ++ s.data.toList) ∧ Below b w w' ∧ (∀ k, k ≠ b → k < B → w'.heap[k]? = w.heap[k]?) ∧ KeepsOthers w w' := by
  obtain ⟨i0, hi, hz0, hz1, hz2⟩ := info_parts infoU8
  obtain ⟨p, v, hp, hbk, hown⟩ := h
  have hcells : ∀ o, w.heap[b]? = some o → o.isCells = true := fun o ho => by rw [hbk] at ho; cases ho; rfl
  have Hcells := Lib.hid hcells
  clear hcells
  have Hchk : Hid (Calls Tryz.prog 89 #[.pointer (some ⟨b, 0, none⟩)] w fun e w' => e = .returned (.tuple #[]) ∧ w'.heap[b]? = some (.cells #[.pointer (some ⟨b, 0, none⟩), v] 90 (0, 0)) ∧ w'.ownsRowF B 5 1 v l.length (Lib.byteCells l) ∧ w.grownBy w' (some b)) := by
    rcases hp with rfl | rfl
    · refine Lib.hid ((copyCheck_fresh b w (by rw [Lib.cell_of_heap hbk]; rfl) (by simp [World.shape?, hbk]) (Lib.frozen_of_heap hbk 0)).mono ?_)
      rintro e w' ⟨rfl, rfl⟩
      have hg : w.grownBy (w.setCell ⟨b, 0, none⟩ (.pointer (some ⟨b, 0, none⟩))) (some b) :=
        ⟨rfl, rfl, rfl, by simp [World.setCell], fun k _ hk => Below.heap_setCell w ⟨b, 0, none⟩ _ k (fun e => hk (by rw [e]))⟩
      refine ⟨rfl, ?_, hown.kept hg ?_, hg⟩
      · simp [World.setCell, Array.getElem?_modify, hbk]
      · exact .inr (Bld.row_ne hown hbk)
    · refine Lib.hid ((copyCheck_used b w (by rw [Lib.cell_of_heap hbk]; rfl)).mono ?_)
      rintro e w' ⟨rfl, rfl⟩
      exact ⟨rfl, hbk, hown, World.grownBy.refl _ _⟩
  clear hp hown hbk
  go_enter Tryz.func54, Tryz.ntmps54
  go_wp2_with fail
  refine Hchk.out.mono ?_
  clear Hchk
  rintro e w1 ⟨rfl, hbk, hown, hg1⟩
  have c0 : w1.cell? ⟨b, 0, none⟩ = some (.pointer (some ⟨b, 0, none⟩)) := by rw [Lib.cell_of_heap hbk]; rfl
  have c1 : w1.cell? ⟨b, 1, none⟩ = some v := by rw [Lib.cell_of_heap hbk]; rfl
  have hs1 := hg1.size
  go_wp2_with (at_builtin; refine Lib.wpList_append_own_stringF _ rfl _ _ 66 9 rfl B 5 i0 Tryz.underlying66 Tryz.underlying9 hi hz0 hz1 hz2 _ _ _ rfl hown s rfl ?c3 ?c4 ?c5 ?_)
  case c3 => unfold maxLen; omega
  case c4 => omega
  case c5 => omega
  intro v' w2 hown' hgrow _
  have hlt : b < w1.heap.size := (Array.getElem?_eq_some_iff.1 hbk).1
  have hne := Bld.row_ne hown hbk
  have hb2 : w2.heap[b]? = some (.cells #[.pointer (some ⟨b, 0, none⟩), v] 90 (0, 0)) := by
    rw [hgrow.block b hlt (fun e => hne e.symm)]
    exact hbk
  have d0 : w2.cell? ⟨b, 0, none⟩ = some (.pointer (some ⟨b, 0, none⟩)) := by rw [Lib.cell_of_heap hb2]; rfl
  have d1 : w2.cell? ⟨b, 1, none⟩ = some v := by rw [Lib.cell_of_heap hb2]; rfl
  have f1 : w2.frozen? ⟨b, 1, none⟩ = false := Lib.frozen_of_heap hb2 1
  obtain ⟨ao, n', cap, rfl⟩ : ∃ ao n' cap, v' = .slice ao n' cap := by
    rcases hown'.2 with ⟨hv, _⟩ | ⟨g, cap, cur, fz, hv, _⟩
    · exact ⟨_, _, _, hv⟩
    · exact ⟨_, _, _, hv⟩
  have hs2 := hgrow.size
  go_wp2
  go_ret2
  have hblk : ∀ k, k ≠ b → k < B → (w2.setCell ⟨b, 1, none⟩ (.slice ao n' cap)).heap[k]? = w.heap[k]? := fun k hk hkB => by
    rw [Below.heap_setCell w2 ⟨b, 1, none⟩ _ k hk, hgrow.block k (by omega) (fun e => by have := (hown.lt k e.symm).1; omega), hg1.block k (by omega) (fun e => by injection e; omega)]
  refine ⟨rfl, ⟨_, .slice ao n' cap, .inr rfl, ?_, ?_⟩, ⟨?_, ?_, ?_, ?_, fun k hk => hblk k (by omega) (by omega)⟩, hblk, ?_⟩
  · simp [World.setCell, Array.getElem?_modify, hb2]
  · have hne' := Bld.row_ne hown' hb2
    have hg3 : w2.grownBy (w2.setCell ⟨b, 1, none⟩ (.slice ao n' cap)) (some b) :=
      ⟨rfl, rfl, rfl, by simp [World.setCell], fun k _ hk => Below.heap_setCell w2 ⟨b, 1, none⟩ _ k (fun e => hk (by rw [e]))⟩
    have h := hown'.kept hg3 (.inr hne')
    have e1 : Lib.byteCells (l ++ s.data.toList) = Lib.byteCells l ++ Lib.strCells s := by simp [Lib.byteCells, Lib.strCells]
    rw [e1, List.length_append, Array.length_toList]
    exact h
  · exact hgrow.os.trans hg1.os
  · exact hgrow.tape.trans hg1.tape
  · exact hgrow.output.trans hg1.output
  · simp [World.setCell]; omega
  · refine ⟨by simp [World.setCell]; omega, fun k o hk ho => ?_⟩
    have hkb : k ≠ b := fun e => by
      subst e
      have := Hcells.out o hk
      rw [ho] at this; cases this
    rw [Below.heap_setCell w2 ⟨b, 1, none⟩ _ k hkb, hgrow.block k (by have := (Array.getElem?_eq_some_iff.1 hk).1; omega) ?_, hg1.block k (Array.getElem?_eq_some_iff.1 hk).1 (fun e => by injection e; omega)]
    · exact hk
    · intro e
      obtain ⟨c, fz, hc⟩ := Lib.ownsRowF_kind hown k e.symm
      rw [hg1.block k (Array.getElem?_eq_some_iff.1 hk).1 (fun e => by injection e; omega), hk] at hc
      cases hc; cases ho
end Go.Proofs.YtejccafolfeabaaGreatDoor

/-
  strings.Builder: Grow at a fresh builder; WriteByte.
-/
namespace Go.Proofs.YtejccafolfeabaaGreatDoor
open Go.RowKit

theorem bGrow_any (b n : Nat) (w : World) (hbk : w.heap[b]? = some (.cells #[.pointer none, .slice none 0 0] 90 (0, 0))) (hn : n ≤ 281474976710656) :
    Calls Tryz.prog 119 #[.pointer (some ⟨b, 0, none⟩), .int .i64 n] w fun e w' => e = .returned (.tuple #[]) ∧ Bld w' b (b + 1) [] ∧ Below b w w' := by
  have hlt : b < w.heap.size := (Array.getElem?_eq_some_iff.1 hbk).1
  refine (Tryz.Builder_Grow_fresh b b n w (Nat.le_refl _) hbk (Nat.le_of_lt hlt) hn).mono ?_
  rintro e w' ⟨rfl, ⟨_, v, h1, h2, h3⟩, hb⟩
  refine ⟨rfl, ⟨_, v, .inr rfl, h1, ?_⟩, hb⟩
  have h4 := World.ownsRowF_of h2
  refine ⟨h4.1, ?_⟩
  rcases h4.2 with h | ⟨g, cap, cur, fz, hv, hg, r⟩
  · exact .inl h
  · refine .inr ⟨g, cap, cur, fz, hv, ?_, r⟩
    rw [hv] at h3
    have : g ≠ b := fun e => h3 (by rw [e]; rfl)
    omega

theorem cell_new1 (w : World) {t : TypeId} (x : Value) : ∀ j u, [x][j]? = some u → (w.alloc (.cells #[x] t)).cell? ((⟨w.heap.size, 0, none⟩ : Addr).add j) = some u := fun j u h => by
  match j, h with
  | 0, h =>
    obtain rfl : x = u := by simpa using h
    exact (Blk.new w t #[x]).cell 0

set_option maxRecDepth 100000 in
set_option maxHeartbeats 1000000 in
theorem lWriteByte_any (b B : Nat) (l : List UInt8) (c : UInt8) (w : World) (h : Bld w b B l) (hbB : b < B) (hlen : l.length + 1 ≤ 140737488355328) (hBw : B ≤ w.heap.size) :
    Calls Tryz.prog 144 #[.pointer (some ⟨b, 0, none⟩), .int .u8 c.toNat] w fun e w' => e = .returned .nilIface ∧ Bld w' b B (l ++ [c]) ∧ Below b w w' ∧ (∀ k, k ≠ b → k < B → w'.heap[k]? = w.heap[k]?) := by
  obtain ⟨i0, hi, hz0, hz1, hz2⟩ := info_parts infoU8
  obtain ⟨p, v, hp, hbk, hown⟩ := h
  have Hchk : Hid (Calls Tryz.prog 89 #[.pointer (some ⟨b, 0, none⟩)] w fun e w' => e = .returned (.tuple #[]) ∧ w'.heap[b]? = some (.cells #[.pointer (some ⟨b, 0, none⟩), v] 90 (0, 0)) ∧ w'.ownsRowF B 5 1 v l.length (Lib.byteCells l) ∧ w.grownBy w' (some b)) := by
    rcases hp with rfl | rfl
    · refine Lib.hid ((copyCheck_fresh b w (by rw [Lib.cell_of_heap hbk]; rfl) (by simp [World.shape?, hbk]) (Lib.frozen_of_heap hbk 0)).mono ?_)
      rintro e w' ⟨rfl, rfl⟩
      have hg : w.grownBy (w.setCell ⟨b, 0, none⟩ (.pointer (some ⟨b, 0, none⟩))) (some b) :=
        ⟨rfl, rfl, rfl, by simp [World.setCell], fun k _ hk => Below.heap_setCell w ⟨b, 0, none⟩ _ k (fun e => hk (by rw [e]))⟩
      refine ⟨rfl, ?_, hown.kept hg ?_, hg⟩
      · simp [World.setCell, Array.getElem?_modify, hbk]
      · exact .inr (Bld.row_ne hown hbk)
    · refine Lib.hid ((copyCheck_used b w (by rw [Lib.cell_of_heap hbk]; rfl)).mono ?_)
      rintro e w' ⟨rfl, rfl⟩
      exact ⟨rfl, hbk, hown, World.grownBy.refl _ _⟩
  clear hp hown hbk
  go_enter Tryz.func144, Tryz.ntmps144
  go_wp2_with fail
  refine Hchk.out.mono ?_
  clear Hchk
  rintro e w1 ⟨rfl, hbk, hown, hg1⟩
  have c0 : w1.cell? ⟨b, 0, none⟩ = some (.pointer (some ⟨b, 0, none⟩)) := by rw [Lib.cell_of_heap hbk]; rfl
  have c1 : w1.cell? ⟨b, 1, none⟩ = some v := by rw [Lib.cell_of_heap hbk]; rfl
  have hs1 := hg1.size
  have hown2 : (w1.alloc (.cells #[.int .u8 c.toNat] 5)).ownsRowF B 5 1 v l.length (Lib.byteCells l) := hown.kept (World.grownBy_alloc w1 _ none) (by
    rcases hown.2 with ⟨rfl, _⟩ | ⟨g, cap, cur, fz, rfl, _⟩
    · exact .inl rfl
    · exact .inr (by simp [Value.ownBlock]))
  have hbk2 : (w1.alloc (.cells #[.int .u8 c.toNat] 5)).heap[b]? = some (.cells #[.pointer (some ⟨b, 0, none⟩), v] 90 (0, 0)) := (Below.heap_alloc w1 _ b (Array.getElem?_eq_some_iff.1 hbk).1).trans hbk
  go_wp2_with (at_builtin; go_must (refine wpList_append_ownF _ rfl _ _ 66 rfl B 5 i0 _ 1 1 Tryz.underlying66 hi hz0 hz1 hz2 rfl (by decide) _ _ _ rfl hown2 ⟨w1.heap.size, 0, none⟩ 1 1 [.int .u8 c.toNat] rfl rfl (cell_new1 w1 _) (by simp [Value.oneCell']) (by unfold maxLen; omega) (by omega) (by simp; omega) ?_))
  intro v' w2 hown' hgrow _
  have hlt : b < w1.heap.size := (Array.getElem?_eq_some_iff.1 hbk).1
  have hne := Bld.row_ne hown hbk
  have hb2 : w2.heap[b]? = some (.cells #[.pointer (some ⟨b, 0, none⟩), v] 90 (0, 0)) := by
    rw [hgrow.block b (by simp; omega) (fun e => hne e.symm)]
    exact hbk2
  have d0 : w2.cell? ⟨b, 0, none⟩ = some (.pointer (some ⟨b, 0, none⟩)) := by rw [Lib.cell_of_heap hb2]; rfl
  have d1 : w2.cell? ⟨b, 1, none⟩ = some v := by rw [Lib.cell_of_heap hb2]; rfl
  have f1 : w2.frozen? ⟨b, 1, none⟩ = false := Lib.frozen_of_heap hb2 1
  obtain ⟨ao, n', cap, rfl⟩ : ∃ ao n' cap, v' = .slice ao n' cap := by
    rcases hown'.2 with ⟨hv, _⟩ | ⟨g, cap, cur, fz, hv, _⟩
    · exact ⟨_, _, _, hv⟩
    · exact ⟨_, _, _, hv⟩
  have hs2 : w1.heap.size + 1 ≤ w2.heap.size := by have := hgrow.size; simpa using this
  go_wp2
  go_ret
  have hblk : ∀ k, k ≠ b → k < B → (w2.setCell ⟨b, 1, none⟩ (.slice ao n' cap)).heap[k]? = w.heap[k]? := fun k hk hkB => by
    rw [Below.heap_setCell w2 ⟨b, 1, none⟩ _ k hk, hgrow.block k (by simp; omega) (fun e => by have := (hown.lt k e.symm).1; omega), Below.heap_alloc w1 _ k (by omega), hg1.block k (by omega) (fun e => by injection e; omega)]
  refine ⟨rfl, ⟨_, .slice ao n' cap, .inr rfl, ?_, ?_⟩, ⟨?_, ?_, ?_, ?_, fun k hk => hblk k (by omega) (by omega)⟩, hblk⟩
  · simp [World.setCell, Array.getElem?_modify, hb2]
  · have hne' := Bld.row_ne hown' hb2
    have hg3 : w2.grownBy (w2.setCell ⟨b, 1, none⟩ (.slice ao n' cap)) (some b) :=
      ⟨rfl, rfl, rfl, by simp [World.setCell], fun k _ hk => Below.heap_setCell w2 ⟨b, 1, none⟩ _ k (fun e => hk (by rw [e]))⟩
    have h := hown'.kept hg3 (.inr hne')
    have e1 : Lib.byteCells (l ++ [c]) = Lib.byteCells l ++ [.int .u8 c.toNat] := by simp [Lib.byteCells]
    rw [e1, List.length_append]
    exact h
  · exact hgrow.os.trans hg1.os
  · exact hgrow.tape.trans hg1.tape
  · exact hgrow.output.trans hg1.output
  · simp [World.setCell]; omega
end Go.Proofs.YtejccafolfeabaaGreatDoor

/-
  strings.ToUpper of a text of ASCII bytes.
-/
namespace Go.Proofs.YtejccafolfeabaaGreatDoor
open Go.RowKit

def upB (c : UInt8) : UInt8 := if 97 ≤ c.toNat ∧ c.toNat ≤ 122 then c - 32 else c
def lowP (c : UInt8) : Prop := 97 ≤ c.toNat ∧ c.toNat ≤ 122
theorem upB_low {c : UInt8} (h : lowP c) : upB c = c - 32 := if_pos h
theorem upB_not {c : UInt8} (h : ¬ lowP c) : upB c = c := if_neg h
theorem upB_nat {c : UInt8} (h : lowP c) : ((c - 32 : UInt8).toNat : Int) = (c.toNat : Int) - 32 := by
  have h1 : (32 : UInt8) ≤ c := by rw [UInt8.le_iff_toNat_le]; have := h.1; show 32 ≤ c.toNat; omega
  rw [UInt8.toNat_sub_of_le _ _ h1]
  have := h.1
  show ((c.toNat - 32 : Nat) : Int) = _
  omega
/-- How far the upper-case text has come. -/
def UpAt (s : ByteArray) (i p : Nat) (l : List UInt8) : Prop := p ≤ i ∧ i ≤ s.size ∧ l = (s.data.toList.take p).map upB ∧ ∀ k c, p ≤ k → k < i → s.data.toList[k]? = some c → ¬ lowP c
theorem map_not {l : List UInt8} (h : ∀ c ∈ l, ¬ lowP c) : l.map upB = l := by
  induction l with
  | nil => rfl
  | cons c l ih => rw [List.map_cons, upB_not (h c (by simp)), ih (fun d hd => h d (by simp [hd]))]
theorem upAt_seg {s : ByteArray} {i p : Nat} {l : List UInt8} (h : UpAt s i p l) : l ++ (s.extract p i).data.toList = (s.data.toList.take i).map upB := by
  obtain ⟨h1, h2, rfl, h4⟩ := h
  have e : s.data.toList.take i = s.data.toList.take p ++ (s.extract p i).data.toList := by
    rw [Lib.extract_data, ← List.drop_take]
    have := (List.take_append_drop p (s.data.toList.take i)).symm
    rw [List.take_take, Nat.min_eq_left h1] at this
    exact this
  rw [e, List.map_append, map_not (l := (s.extract p i).data.toList)]
  intro c hc
  obtain ⟨k, hk, hkc⟩ := List.getElem_of_mem hc
  have hk' : (s.extract p i).data.toList[k]? = some c := by rw [List.getElem?_eq_getElem hk, hkc]
  rw [Lib.extract_data] at hk'
  have hlt : k < i - p := by
    have := (List.getElem?_eq_some_iff.1 hk').1
    rw [List.length_take] at this; omega
  rw [List.getElem?_take_of_lt hlt, List.getElem?_drop] at hk'
  exact h4 (p + k) c (by omega) (by omega) hk'
theorem upAt_skip {s : ByteArray} {i p : Nat} {l : List UInt8} {c : UInt8} (h : UpAt s i p l) (hi : i < s.size) (hc : s.data.toList[i]? = some c) (hn : ¬ lowP c) : UpAt s (i + 1) p l :=
  ⟨by have := h.1; omega, by omega, h.2.2.1, fun k d hk hk2 hd => by
    rcases Nat.lt_or_ge k i with hlt | hge
    · exact h.2.2.2 k d hk hlt hd
    · obtain rfl : k = i := by omega
      rw [hc] at hd; cases hd; exact hn⟩
theorem upAt_put {s : ByteArray} {i p : Nat} {l : List UInt8} {c : UInt8} (h : UpAt s i p l) (hi : i < s.size) (hc : s.data.toList[i]? = some c) (hn : lowP c) : UpAt s (i + 1) (i + 1) (l ++ (s.extract p i).data.toList ++ [c - 32]) :=
  ⟨by omega, by omega, by rw [upAt_seg h, List.take_add_one, hc, Option.toList_some, List.map_append, List.map_singleton, upB_low hn], fun k d hk hk2 _ => by omega⟩
theorem upAt_len {s : ByteArray} {i p : Nat} {l : List UInt8} (h : UpAt s i p l) : l.length = p := by
  have h1 := h.1; have h2 := h.2.1
  rw [h.2.2.1, List.length_map, List.length_take, size_data]; omega

set_option maxRecDepth 100000 in
set_option maxHeartbeats 2000000 in
theorem lToUpper_any (s : ByteArray) (w : World) (hs : s.size ≤ 1000000) (ha : ∀ c ∈ s.data.toList, c.toNat < 128) :
    Calls Tryz.prog 116 #[.string s] w fun e w' => e = .returned (.string ⟨(s.data.toList.map upB).toArray⟩) ∧ Below w.heap.size w w' := by
  have Ha := Lib.hid ha
  clear ha
  go_enter Tryz.func116, Tryz.ntmps116
  go_wp2
  go_loop [3, 4, 5] (fun v3 v4 v5 => ∃ (i : Nat) (hl : Bool), v3 = .bool true ∧ v4 = .bool hl ∧ v5 = .int .i64 i ∧ i ≤ s.size ∧ Hid (hl = false → ∀ k c, k < i → s.data.toList[k]? = some c → ¬ lowP c)) (fun _ _ v5 => s.size - (intOf v5).toNat)
  case atStart => exact ⟨0, false, rfl, rfl, rfl, by omega, fun _ k c hk => by omega⟩
  case round =>
    obtain ⟨i, hl, rfl, rfl, rfl, hi, HL⟩ := hrel
    by_cases hlt : i < s.size
    · obtain ⟨c, hc⟩ : ∃ c, s.data.toList[i]? = some c := ⟨_, List.getElem?_eq_getElem (by rw [size_data]; exact hlt)⟩
      have hcs : s[i]'hlt = c := (List.getElem?_eq_some_iff.1 hc).2
      have h128 : (s[i]'hlt).toNat < 128 := by rw [hcs]; exact Ha.out c (List.mem_of_getElem? hc)
      cases hl with
      | true =>
        clear HL hc hcs
        go_wp2
        go_round
        case rel => exact ⟨i + 1, true, rfl, by first | rfl | (congr 1; simp; omega), by go_num, by omega, Lib.hid (fun h => by cases h)⟩
        case measure => simp [intOf]; omega
      | false =>
        have HN := Lib.hid (HL.out rfl)
        clear HL
        by_cases hlo : lowP c
        · have h1 : 97 ≤ (s[i]'hlt).toNat := by rw [hcs]; exact hlo.1
          have h2 : (s[i]'hlt).toNat ≤ 122 := by rw [hcs]; exact hlo.2
          clear hc hcs
          go_wp2
          go_round
          case rel => exact ⟨i + 1, true, rfl, by first | rfl | (congr 1; simp; omega), by go_num, by omega, Lib.hid (fun h => by cases h)⟩
          case measure => simp [intOf]; omega
        · have HN2 : Hid (false = false → ∀ k c, k < i + 1 → s.data.toList[k]? = some c → ¬ lowP c) := Lib.hid (fun _ k d hk hd => by
            rcases Nat.lt_or_ge k i with h | h
            · exact HN.out k d h hd
            · obtain rfl : k = i := by omega
              rw [hc] at hd; cases hd; exact hlo)
          rcases (by unfold lowP at hlo; rw [hcs]; omega : (s[i]'hlt).toNat < 97 ∨ 122 < (s[i]'hlt).toNat) with h1 | h1
          all_goals
            clear hc hcs
            go_wp2
            go_round
            case rel => exact ⟨i + 1, false, rfl, by first | rfl | (congr 1; simp; omega), by go_num, by omega, HN2⟩
            case measure => simp [intOf]; omega
    · obtain rfl : i = s.size := by omega
      cases hl with
      | false =>
        have HN := Lib.hid (HL.out rfl)
        clear HL
        go_wp2
        go_ret
        refine ⟨?_, Below.refl _ _⟩
        rw [map_not (fun c hc => by
          obtain ⟨k, hk, hkc⟩ := List.getElem_of_mem hc
          exact HN.out k c (by rw [← size_data]; exact hk) (by rw [List.getElem?_eq_getElem hk, hkc]))]
        rfl
      | true =>
        clear HL
        have hbk : (w.alloc (.cells #[.pointer none, .slice none 0 0] 90)).heap[w.heap.size]? = some (.cells #[.pointer none, .slice none 0 0] 90 (0, 0)) := heap_alloc_new w _
        have hb0 : Below w.heap.size w (w.alloc (.cells #[.pointer none, .slice none 0 0] 90)) := (Below.refl _ _).alloc (Nat.le_refl _) _
        go_wp2_with fail
        refine (bGrow_any w.heap.size s.size _ hbk (by omega)).mono ?_
        rintro e w1 ⟨rfl, hB1, hb1⟩
        have hb2 := hb0.trans hb1
        clear hbk hb0 hb1
        go_wp2_with fail
        go_loopw [8, 9] (fun v8 v9 wr => ∃ (i p : Nat) (l : List UInt8), v8 = .int .i64 p ∧ v9 = .int .i64 i ∧ Bld wr w.heap.size (w.heap.size + 1) l ∧ Hid (UpAt s i p l) ∧ Below w.heap.size w wr ∧ p ≤ i ∧ i ≤ s.size) (fun _ v9 _ => s.size - (intOf v9).toNat)
        case atStart => exact ⟨0, 0, [], rfl, rfl, hB1, Lib.hid ⟨Nat.le_refl _, Nat.zero_le _, rfl, fun k c h1 h2 => by omega⟩, hb2, Nat.le_refl _, Nat.zero_le _⟩
        case round =>
          clear hB1 hb2
          obtain ⟨i, p, l, rfl, rfl, hB, HU, hb, hpi, his⟩ := hrel
          have hlen : l.length ≤ s.size := by have := upAt_len HU.out; omega
          have hBw : w.heap.size + 1 ≤ wr.heap.size := hB.lt
          by_cases hlt : i < s.size
          · obtain ⟨c, hc⟩ : ∃ c, s.data.toList[i]? = some c := ⟨_, List.getElem?_eq_getElem (by rw [size_data]; exact hlt)⟩
            have hcs : s[i]'hlt = c := (List.getElem?_eq_some_iff.1 hc).2
            have h128 : (s[i]'hlt).toNat < 128 := by rw [hcs]; exact Ha.out c (List.mem_of_getElem? hc)
            by_cases hlo : lowP c
            · have h1 : 97 ≤ (s[i]'hlt).toNat := by rw [hcs]; exact hlo.1
              have h2 : (s[i]'hlt).toNat ≤ 122 := by rw [hcs]; exact hlo.2
              have HP := Lib.hid (upAt_put HU.out hlt hc hlo)
              have Hnat := Lib.hid (upB_nat hlo)
              have Hcs := Lib.hid hcs
              clear hc hcs
              by_cases hpi2 : p < i
              · go_wp2_with fail
                refine (lWriteString_any w.heap.size (w.heap.size + 1) l (s.extract p i) wr hB (by omega) (by rw [ByteArray.size_extract]; omega) hBw).mono ?_
                rintro e w2 ⟨rfl, hB2, hb2, _, _⟩
                have hBw2 := hB2.lt
                have hb3 := hb.trans hb2
                clear hb hb2 hB
                go_wp2_with fail
                rw [show (((s[i]'hlt).toNat : Int) - 32) = ((c - 32 : UInt8).toNat : Int) by rw [Hnat.out, Hcs.out]]
                refine (lWriteByte_any w.heap.size (w.heap.size + 1) _ (c - 32) w2 hB2 (by omega) (by rw [List.length_append, size_data, ByteArray.size_extract]; omega) (by omega)).mono ?_
                rintro e w3 ⟨rfl, hB3, hb4, _⟩
                have hb5 := hb3.trans hb4
                clear hb3 hb4 hB2
                go_wp2
                go_roundw
                case rel => exact ⟨i + 1, i + 1, _, by go_num, by go_num, hB3, HP, hb5, Nat.le_refl _, by omega⟩
                case measure => simp [intOf]; omega
              · obtain rfl : p = i := by omega
                have he : (s.extract p p).data.toList = [] := by simp
                rw [he, List.append_nil] at HP
                clear he
                go_wp2_with fail
                rw [show (((s[p]'hlt).toNat : Int) - 32) = ((c - 32 : UInt8).toNat : Int) by rw [Hnat.out, Hcs.out]]
                refine (lWriteByte_any w.heap.size (w.heap.size + 1) _ (c - 32) wr hB (by omega) (by omega) (by omega)).mono ?_
                rintro e w3 ⟨rfl, hB3, hb4, _⟩
                have hb5 := hb.trans hb4
                clear hb hb4 hB
                go_wp2
                go_roundw
                case rel => exact ⟨p + 1, p + 1, _, by go_num, by go_num, hB3, HP, hb5, Nat.le_refl _, by omega⟩
                case measure => simp [intOf]; omega
            · have HP := Lib.hid (upAt_skip HU.out hlt hc hlo)
              rcases (by unfold lowP at hlo; rw [hcs]; omega : (s[i]'hlt).toNat < 97 ∨ 122 < (s[i]'hlt).toNat) with h1 | h1
              all_goals
                clear hc hcs
                go_wp2
                go_roundw
                case rel => exact ⟨i + 1, p, l, rfl, by go_num, hB, HP, hb, by omega, by omega⟩
                case measure => simp [intOf]; omega
          · obtain rfl : i = s.size := by omega
            have HE := Lib.hid (upAt_seg HU.out)
            by_cases hpi2 : p < s.size
            · go_wp2_with fail
              refine (lWriteString_any w.heap.size (w.heap.size + 1) l (s.extract p s.size) wr hB (by omega) (by rw [ByteArray.size_extract]; omega) hBw).mono ?_
              rintro e w2 ⟨rfl, hB2, hb2, _, _⟩
              have hb3 := hb.trans hb2
              clear hb hb2 hB
              go_wp2_with fail
              refine (bString_any w.heap.size (w.heap.size + 1) _ w2 hB2 (by omega)).mono ?_
              rintro e w3 ⟨rfl, hb4, _⟩
              go_wp2
              go_ret
              refine ⟨?_, hb3.trans hb4⟩
              have HE2 := HE.out
              rw [Lib.extract_data] at HE2
              rw [HE2, List.take_of_length_le (by rw [size_data]; omega)]
              rfl
            · obtain rfl : p = s.size := by omega
              go_wp2_with fail
              refine (bString_any w.heap.size (w.heap.size + 1) _ wr hB (by omega)).mono ?_
              rintro e w3 ⟨rfl, hb4, _⟩
              go_wp2
              go_ret
              refine ⟨?_, hb.trans hb4⟩
              rw [HU.out.2.2.1, List.take_of_length_le (by rw [size_data]; omega)]
              rfl
end Go.Proofs.YtejccafolfeabaaGreatDoor

/-
  strings.Repeat of one nought, up to three times.
-/
namespace Go.Proofs.YtejccafolfeabaaGreatDoor
open Go.RowKit

theorem hasPre_any (s p : ByteArray) (b : Bool) (w : World) (h : Lib.hasPrefix s.data.toList p.data.toList = b) : Calls Tryz.prog 149 #[.string s, .string p] w fun e w' => e = .returned (.bool b) ∧ w = w' :=
  (Tryz.strings_HasPrefix s p w).mono fun _ _ ⟨h1, h2⟩ => ⟨by rw [h1, h], h2.symm⟩
set_option maxRecDepth 100000 in
theorem lRepeat0_any (w : World) : Calls Tryz.prog 118 #[.string ⟨#[48]⟩, .int .i64 0] w fun e w' => e = .returned (.string ⟨#[]⟩) ∧ w = w' := by
  go_enter Tryz.func118, Tryz.ntmps118
  go_wp2_with fail
  go_ret
  exact ⟨rfl, rfl⟩
set_option maxRecDepth 100000 in
theorem lRepeat1_any (w : World) : Calls Tryz.prog 118 #[.string ⟨#[48]⟩, .int .i64 1] w fun e w' => e = .returned (.string ⟨#[48]⟩) ∧ w = w' := by
  go_enter Tryz.func118, Tryz.ntmps118
  go_wp2_with fail
  go_ret
  exact ⟨rfl, rfl⟩
set_option maxRecDepth 100000 in
set_option maxHeartbeats 2000000 in
theorem lRepeat2_any (w : World) : Calls Tryz.prog 118 #[.string ⟨#[48]⟩, .int .i64 2] w fun e w' => e = .returned (.string ⟨#[48, 48]⟩) ∧ w = w' := by
  go_enter Tryz.func118, Tryz.ntmps118
  go_wp2_with fail
  refine (Tryz.bits_Mul 1 2 (by decide) (by decide) w).mono ?_
  rintro e w' ⟨rfl, rfl⟩
  go_wp2_with fail
  refine (hasPre_any _ _ false _ (by kernel_rfl)).mono ?_
  rintro e w' ⟨rfl, rfl⟩
  go_wp2_with fail
  refine (hasPre_any _ _ false _ (by kernel_rfl)).mono ?_
  rintro e w' ⟨rfl, rfl⟩
  go_wp2_with fail
  refine (hasPre_any _ _ true _ (by kernel_rfl)).mono ?_
  rintro e w' ⟨rfl, rfl⟩
  go_wp2_with fail
  go_ret
  exact ⟨by kernel_rfl, rfl⟩
set_option maxRecDepth 100000 in
set_option maxHeartbeats 2000000 in
theorem lRepeat3_any (w : World) : Calls Tryz.prog 118 #[.string ⟨#[48]⟩, .int .i64 3] w fun e w' => e = .returned (.string ⟨#[48, 48, 48]⟩) ∧ w = w' := by
  go_enter Tryz.func118, Tryz.ntmps118
  go_wp2_with fail
  refine (Tryz.bits_Mul 1 3 (by decide) (by decide) w).mono ?_
  rintro e w' ⟨rfl, rfl⟩
  go_wp2_with fail
  refine (hasPre_any _ _ false _ (by kernel_rfl)).mono ?_
  rintro e w' ⟨rfl, rfl⟩
  go_wp2_with fail
  refine (hasPre_any _ _ false _ (by kernel_rfl)).mono ?_
  rintro e w' ⟨rfl, rfl⟩
  go_wp2_with fail
  refine (hasPre_any _ _ true _ (by kernel_rfl)).mono ?_
  rintro e w' ⟨rfl, rfl⟩
  go_wp2_with fail
  go_ret
  exact ⟨by kernel_rfl, rfl⟩
/-- strings.Repeat("0", n). -/
theorem lRepeat_any (n : Nat) (hn : n ≤ 3) (w : World) : Calls Tryz.prog 118 #[.string ⟨#[48]⟩, .int .i64 n] w fun e w' => e = .returned (.string ⟨(List.replicate n (48 : UInt8)).toArray⟩) ∧ w = w' := by
  rcases (by omega : n = 0 ∨ n = 1 ∨ n = 2 ∨ n = 3) with rfl | rfl | rfl | rfl
  · exact lRepeat0_any w
  · exact lRepeat1_any w
  · exact lRepeat2_any w
  · exact lRepeat3_any w
end Go.Proofs.YtejccafolfeabaaGreatDoor

/-
  runes.spell: a rune's spelling.
-/
namespace Go.Proofs.YtejccafolfeabaaGreatDoor
open Go.RowKit

theorem upB_lowD (d : Nat) (h : d < 16) : upB (lowD d) = hexD d := by
  rcases (by omega : d = 0 ∨ d = 1 ∨ d = 2 ∨ d = 3 ∨ d = 4 ∨ d = 5 ∨ d = 6 ∨ d = 7 ∨ d = 8 ∨ d = 9 ∨ d = 10 ∨ d = 11 ∨ d = 12 ∨ d = 13 ∨ d = 14 ∨ d = 15) with rfl | rfl | rfl | rfl | rfl | rfl | rfl | rfl | rfl | rfl | rfl | rfl | rfl | rfl | rfl | rfl <;> rfl
theorem lowD_lt (d : Nat) (h : d < 16) : (lowD d).toNat < 128 := by
  rcases (by omega : d = 0 ∨ d = 1 ∨ d = 2 ∨ d = 3 ∨ d = 4 ∨ d = 5 ∨ d = 6 ∨ d = 7 ∨ d = 8 ∨ d = 9 ∨ d = 10 ∨ d = 11 ∨ d = 12 ∨ d = 13 ∨ d = 14 ∨ d = 15) with rfl | rfl | rfl | rfl | rfl | rfl | rfl | rfl | rfl | rfl | rfl | rfl | rfl | rfl | rfl | rfl <;> decide
theorem up_lowW : ∀ (k n : Nat), (lowW k n).map upB = hexW k n
  | 0, _ => rfl
  | k + 1, n => by rw [lowW, List.map_append, up_lowW k, List.map_singleton, upB_lowD _ (Nat.mod_lt _ (by decide)), hexW]
theorem lowW_ascii : ∀ (k n : Nat), ∀ c ∈ lowW k n, c.toNat < 128
  | 0, _, c, h => by simp [lowW] at h
  | k + 1, n, c, h => by
    rw [lowW] at h
    rcases List.mem_append.1 h with h | h
    · exact lowW_ascii k _ c h
    · simp at h; subst h; exact lowD_lt _ (Nat.mod_lt _ (by decide))
theorem hex_pad (n : Nat) : List.replicate (4 - hexL n) (48 : UInt8) ++ hexW (hexL n) n = hexS n := by
  unfold hexS
  by_cases h1 : n < 16
  · have e1 : hexL n = 1 := by unfold hexL; rw [if_pos h1]
    have e2 : hexK n = 4 := by unfold hexK; rw [if_pos (by omega)]
    rw [e1, e2, hexW_succ 3, hexW_succ 2, hexW_succ 1]
    have a1 : n / 16 ^ 3 % 16 = 0 := by rw [show (16 : Nat) ^ 3 = 4096 by decide]; omega
    have a2 : n / 16 ^ 2 % 16 = 0 := by rw [show (16 : Nat) ^ 2 = 256 by decide]; omega
    have a3 : n / 16 ^ 1 % 16 = 0 := by rw [show (16 : Nat) ^ 1 = 16 by decide]; omega
    rw [a1, a2, a3]; rfl
  · by_cases h2 : n < 256
    · have e1 : hexL n = 2 := by unfold hexL; rw [if_neg h1, if_pos h2]
      have e2 : hexK n = 4 := by unfold hexK; rw [if_pos (by omega)]
      rw [e1, e2, hexW_succ 3, hexW_succ 2]
      have a1 : n / 16 ^ 3 % 16 = 0 := by rw [show (16 : Nat) ^ 3 = 4096 by decide]; omega
      have a2 : n / 16 ^ 2 % 16 = 0 := by rw [show (16 : Nat) ^ 2 = 256 by decide]; omega
      rw [a1, a2]; rfl
    · by_cases h3 : n < 4096
      · have e1 : hexL n = 3 := by unfold hexL; rw [if_neg h1, if_neg h2, if_pos h3]
        have e2 : hexK n = 4 := by unfold hexK; rw [if_pos (by omega)]
        rw [e1, e2, hexW_succ 3]
        have a1 : n / 16 ^ 3 % 16 = 0 := by rw [show (16 : Nat) ^ 3 = 4096 by decide]; omega
        rw [a1]; rfl
      · have e1 : hexL n = hexK n := by unfold hexL; rw [if_neg h1, if_neg h2, if_neg h3]
        have := hexK_bd n
        rw [e1, show 4 - hexK n = 0 by omega]; rfl

theorem ret_str {x y : ByteArray} (h : x.data.toList = y.data.toList) : Ending.returned (.string x) = .returned (.string y) := by
  rw [ByteArray.ext (Array.toList_inj.1 h)]

set_option maxRecDepth 100000 in
set_option maxHeartbeats 1000000 in
theorem rspell_any (n : Nat) (w : World) (h1 : n ≤ 1114111) (hT : TabB w) :
    Calls Tryz.prog 87 #[.int .i32 n] w fun e w' => e = .returned (.string ⟨(spellP n).toArray⟩) ∧ Below w.heap.size w w' := by
  have hl := hexL_bd n
  have hsz : (⟨(lowS n).toArray⟩ : ByteArray).size = hexL n := by rw [← size_data]; simp [lowS, lowW_len]
  have hup : (⟨(lowS n).toArray⟩ : ByteArray).data.toList.map upB = hexW (hexL n) n := by simp [lowS, up_lowW]
  have HU := Lib.hid hup
  have hasc := fun c (h : c ∈ (⟨(lowS n).toArray⟩ : ByteArray).data.toList) => lowW_ascii (hexL n) n c (by simpa [lowS] using h)
  have Hasc := Lib.hid hasc
  have hs9 : (⟨(lowS n).toArray⟩ : ByteArray).size ≤ 1000000 := by omega
  clear hup hasc hsz
  generalize hX : (⟨(lowS n).toArray⟩ : ByteArray) = X at HU Hasc hs9
  have HX := Lib.hid hX
  clear hX
  obtain ⟨H, hH⟩ : ∃ H : ByteArray, (⟨(hexW (hexL n) n).toArray⟩ : ByteArray) = H := ⟨_, rfl⟩
  have hHs : H.size = hexL n := by rw [← hH, ← size_data]; simp [hexW_len]
  have HH := Lib.hid hH
  have HD := Lib.hid (show [85, 43] ++ List.replicate (4 - hexL n) (48 : UInt8) ++ H.data.toList = spellP n by
    rw [← hH, List.append_assoc, hex_pad]; rfl)
  clear hH
  go_enter Tryz.func87, Tryz.ntmps87
  go_wp2_with fail
  refine (lFormat_any n w h1 hT).mono ?_
  rintro e w1 ⟨rfl, hb1⟩
  rw [HX.out]
  go_wp2_with fail
  refine (lToUpper_any X w1 hs9 Hasc.out).mono ?_
  rintro e w2 ⟨rfl, hb2⟩
  rw [HU.out, HH.out]
  have hb := below_two hb1 hb2
  clear hb1 hb2
  rcases (by omega : hexL n = 1 ∨ hexL n = 2 ∨ hexL n = 3 ∨ hexL n = 4 ∨ hexL n = 5 ∨ hexL n = 6) with h | h | h | h | h | h
  · rw [h] at hHs HD
    clear h hl
    go_wp2_with fail
    refine (lRepeat_any 3 (by decide) w2).mono ?_
    rintro e w3 ⟨rfl, rfl⟩
    go_wp2
    go_ret
    exact ⟨ret_str (by have h := HD.out; simp at h ⊢; exact h), hb⟩
  · rw [h] at hHs HD
    clear h hl
    go_wp2_with fail
    refine (lRepeat_any 2 (by decide) w2).mono ?_
    rintro e w3 ⟨rfl, rfl⟩
    go_wp2
    go_ret
    exact ⟨ret_str (by have h := HD.out; simp at h ⊢; exact h), hb⟩
  · rw [h] at hHs HD
    clear h hl
    go_wp2_with fail
    refine (lRepeat_any 1 (by decide) w2).mono ?_
    rintro e w3 ⟨rfl, rfl⟩
    go_wp2
    go_ret
    exact ⟨ret_str (by have h := HD.out; simp at h ⊢; exact h), hb⟩
  · rw [h] at hHs HD
    clear h hl
    go_wp2_with fail
    refine (lRepeat_any 0 (by decide) w2).mono ?_
    rintro e w3 ⟨rfl, rfl⟩
    go_wp2
    go_ret
    exact ⟨ret_str (by have h := HD.out; simp at h ⊢; exact h), hb⟩
  · rw [h] at hHs HD
    clear h hl
    go_wp2_with fail
    refine (lRepeat_any 0 (by decide) w2).mono ?_
    rintro e w3 ⟨rfl, rfl⟩
    go_wp2
    go_ret
    exact ⟨ret_str (by have h := HD.out; simp at h ⊢; exact h), hb⟩
  · rw [h] at hHs HD
    clear h hl
    go_wp2_with fail
    refine (lRepeat_any 0 (by decide) w2).mono ?_
    rintro e w3 ⟨rfl, rfl⟩
    go_wp2
    go_ret
    exact ⟨ret_str (by have h := HD.out; simp at h ⊢; exact h), hb⟩
end Go.Proofs.YtejccafolfeabaaGreatDoor

/-
  strings.Join with one blank between.
-/
namespace Go.Proofs.YtejccafolfeabaaGreatDoor
open Go.RowKit

def joinL : List ByteArray → List UInt8
  | [] => []
  | [x] => x.data.toList
  | x :: y :: r => x.data.toList ++ 32 :: joinL (y :: r)
theorem joinL_snoc : ∀ (l : List ByteArray) (x : ByteArray), l ≠ [] → joinL (l ++ [x]) = joinL l ++ [32] ++ x.data.toList
  | [], _, h => absurd rfl h
  | [y], x, _ => by simp [joinL]
  | y :: z :: r, x, _ => by
    have ih := joinL_snoc (z :: r) x (by simp)
    simp only [List.cons_append, joinL] at ih ⊢
    rw [ih]; simp
theorem joinL_len : ∀ (l : List ByteArray), (∀ x ∈ l, x.size ≤ 1000) → (joinL l).length ≤ 1001 * l.length
  | [], _ => by simp [joinL]
  | [x], h => by have := h x (by simp); simp [joinL] at this ⊢; have h2 : x.data.size = x.size := rfl; omega
  | x :: y :: r, h => by
    have h1 := h x (by simp)
    have ih := joinL_len (y :: r) (fun z hz => h z (by simp [hz]))
    have h2 := size_data x
    rw [joinL, List.length_append, List.length_cons, h2]
    simp only [List.length_cons] at ih ⊢
    omega
theorem joinL_step {ss : List ByteArray} {k : Nat} {x : ByteArray} (h : ss[k + 1]? = some x) : joinL (ss.take (k + 1 + 1)) = joinL (ss.take (k + 1)) ++ [32] ++ x.data.toList := by
  rw [List.take_add_one (i := k + 1), h, Option.toList_some, joinL_snoc]
  intro e
  have h1 : (ss.take (k + 1)).length = 0 := by rw [e]; rfl
  have h2 := (List.getElem?_eq_some_iff.1 h).1
  rw [List.length_take] at h1
  omega

set_option maxRecDepth 100000 in
set_option maxHeartbeats 2000000 in
theorem lJoin_any (A : Option Addr) (n c : Nat) (ss : List ByteArray) (w : World) (hA : Rd w 1 A (ss.map fun s => [Value.string s])) (hl : ss.length = n) (hc : n ≤ c) (hn : n ≤ 600000) (hz : ∀ s ∈ ss, s.size ≤ 1000) :
    Calls Tryz.prog 88 #[.slice A n c, .string ⟨#[32]⟩] w fun e w' => e = .returned (.string ⟨(joinL ss).toArray⟩) ∧ Below w.heap.size w w' := by
  have Hl := Lib.hid hl
  have Hz := Lib.hid hz
  clear hl hz
  by_cases h0 : n = 0
  · subst h0
    have : ss = [] := List.eq_nil_of_length_eq_zero Hl.out
    subst this
    go_enter Tryz.func88, Tryz.ntmps88
    go_wp2_with fail
    go_ret
    exact ⟨rfl, Below.refl _ _⟩
  obtain ⟨b, off, x0, rfl, Hx0, d0⟩ := hA.at1 (k := 0) (by have := Hl.out; omega)
  rw [Nat.add_zero] at d0
  by_cases h1 : n = 1
  · subst h1
    have hss : ss = [x0] := by
      have h2 := Hl.out
      match ss, h2 with
      | [y], _ => have := Hx0.out; simp at this; rw [this]
    have HS := Lib.hid hss
    clear hss h0
    go_enter Tryz.func88, Tryz.ntmps88
    go_wp2_with fail
    go_ret
    refine ⟨?_, Below.refl _ _⟩
    rw [HS.out]; rfl
  have hn2 : 2 ≤ n := by omega
  have hq : (1 : Int) < 9223372036854775807 / ((n : Int) - 1) := by
    have : (2 : Int) ≤ 9223372036854775807 / ((n : Int) - 1) := Int.le_ediv_of_mul_le (by omega) (by omega)
    omega
  have hx0z := Hz.out x0 (List.mem_of_getElem? Hx0.out)
  clear h0 h1
  go_enter Tryz.func88, Tryz.ntmps88
  go_wp2_with fail
  go_loop [5, 41] (fun v5 v41 => ∃ (k m : Nat), v5 = .int .i64 m ∧ v41 = .int .i64 k ∧ k ≤ n ∧ m ≤ 600000 + 1000 * k) (fun _ v41 => n - (intOf v41).toNat)
  case atStart => exact ⟨0, n - 1, by go_num, rfl, by omega, by omega⟩
  case round =>
    clear hq
    obtain ⟨k, m, rfl, rfl, hk, hm⟩ := hrel
    by_cases hlt : k < n
    · obtain ⟨b', off', x, hbo, Hx, d1⟩ := hA.at1 (k := k) (by have := Hl.out; omega)
      injection hbo with hbo
      injection hbo with hb1 hb2
      subst hb1; subst hb2
      have hxz := Hz.out x (List.mem_of_getElem? Hx.out)
      go_wp2_with fail
      go_round
      case rel => exact ⟨k + 1, m + x.size, by go_num, by go_num, by omega, by omega⟩
      case measure => simp [intOf]; omega
    · obtain rfl : n = k := by omega
      have hbk : (w.alloc (.cells #[.pointer none, .slice none 0 0] 90)).heap[w.heap.size]? = some (.cells #[.pointer none, .slice none 0 0] 90 (0, 0)) := heap_alloc_new w _
      have hb0 : Below w.heap.size w (w.alloc (.cells #[.pointer none, .slice none 0 0] 90)) := (Below.refl _ _).alloc (Nat.le_refl _) _
      go_wp2_with fail
      refine (bGrow_any w.heap.size m _ hbk (by omega)).mono ?_
      rintro e w1 ⟨rfl, hB1, hb1⟩
      have hb2 := hb0.trans hb1
      have e0 := cell_keep d0 hb2
      have hB1z := hB1.lt
      clear hbk hb0 hb1
      go_wp2_with fail
      refine (lWriteString_any w.heap.size (w.heap.size + 1) [] x0 w1 hB1 (by omega) (by simp only [List.length_nil]; omega) hB1z).mono ?_
      rintro e w2 ⟨rfl, hB2, hb3, _, _⟩
      have hb4 := hb2.trans hb3
      clear hb2 hb3 hB1 e0
      have HJ := Lib.hid (show [] ++ x0.data.toList = joinL (ss.take (0 + 1)) by
        have := Hx0.out
        rw [List.take_add_one, this]; simp [joinL])
      rw [HJ.out] at hB2
      clear HJ
      go_wp2_with fail
      go_loopw [65] (fun v65 wr => ∃ (k : Nat), v65 = .int .i64 k ∧ k + 1 ≤ n ∧ Bld wr w.heap.size (w.heap.size + 1) (joinL (ss.take (k + 1))) ∧ Below w.heap.size w wr) (fun v65 _ => n - (intOf v65).toNat)
      case atStart => exact ⟨0, rfl, by omega, hB2, hb4⟩
      case round =>
        clear hB2 hb4
        obtain ⟨k, rfl, hk1, hB, hb⟩ := hrel
        have hBz := hB.lt
        have hlen : (joinL (ss.take (k + 1))).length ≤ 700000000 := by
          have h9 := joinL_len (ss.take (k + 1)) (fun x hx => Hz.out x (List.mem_of_mem_take hx))
          rw [List.length_take] at h9
          omega
        by_cases hlt2 : k + 1 < n
        · obtain ⟨b', off', x, hbo, Hx, d1⟩ := hA.at1 (k := k + 1) (by have := Hl.out; omega)
          injection hbo with hbo
          injection hbo with hb1 hb2
          subst hb1; subst hb2
          have hxz := Hz.out x (List.mem_of_getElem? Hx.out)
          have HJ := Lib.hid (joinL_step Hx.out)
          have hkI : (k : Int) < (n : Int) - 1 := by omega
          have e1 : wr.cell? ⟨b, off + 1 + k, none⟩ = some (.string x) := by
            rw [show off + 1 + k = off + (k + 1) by omega]; exact cell_keep d1 hb
          clear d1
          go_wp2_with fail
          refine (lWriteString_any w.heap.size (w.heap.size + 1) _ ⟨#[32]⟩ wr hB (by omega) (by show _ + 1 ≤ _; omega) hBz).mono ?_
          rintro e w3 ⟨rfl, hB3, hb3, _, _⟩
          have hb4 := hb.trans hb3
          have hB3z := hB3.lt
          clear hb hb3 hB e1
          go_wp2_with fail
          refine (lWriteString_any w.heap.size (w.heap.size + 1) _ x w3 hB3 (by omega) (by rw [List.length_append]; show _ + 1 + _ ≤ _; omega) hB3z).mono ?_
          rintro e w4 ⟨rfl, hB4, hb5, _, _⟩
          have hb6 := hb4.trans hb5
          rw [show joinL (ss.take (k + 1)) ++ (⟨#[32]⟩ : ByteArray).data.toList ++ x.data.toList = joinL (ss.take (k + 1 + 1)) from HJ.out.symm] at hB4
          clear hb4 hb5 hB3
          go_wp2
          go_roundw
          case rel => exact ⟨k + 1, by go_num, by omega, hB4, hb6⟩
          case measure => simp [intOf]; omega
        · have hk2 : k + 1 = n := by omega
          have HE := Lib.hid (show ss.take (k + 1) = ss from List.take_of_length_le (by have := Hl.out; omega))
          rw [HE.out] at hB
          have hkI : ¬ (k : Int) < (n : Int) - 1 := by omega
          clear hk2
          go_wp2_with fail
          refine (bString_any w.heap.size (w.heap.size + 1) _ wr hB (by omega)).mono ?_
          rintro e w3 ⟨rfl, hb4, _⟩
          go_wp2
          go_ret
          exact ⟨rfl, hb.trans hb4⟩
end Go.Proofs.YtejccafolfeabaaGreatDoor

/-
  runes.Print: the spelling of a set.
-/
namespace Go.Proofs.YtejccafolfeabaaGreatDoor
open Go.RowKit

theorem TabB.below {w w' : World} (h : TabB w) (hb : Below w.heap.size w w') : TabB w' := by unfold TabB at h ⊢; exact cell_keep h hb
theorem infoStr : (Tryz.prog.info? 9).map (fun i => (i.zero, i.size, i.bytes)) = some (some (.string ByteArray.empty), 1, 16) := by kernel_rfl
/-- A text's one cell. -/
def encStr (s : ByteArray) : List Value := [.string s]
theorem encStr_ok (l : List ByteArray) : ∀ y ∈ l.map encStr, y.length = 1 ∧ ∀ u ∈ y, u.oneCell' = true := by
  intro y hy; obtain ⟨s, _, rfl⟩ := List.mem_map.1 hy
  exact ⟨rfl, by simp [encStr, Value.oneCell']⟩
def itemS (x : Int × Int) : ByteArray := ⟨(itemT x).toArray⟩
theorem joinL_print : ∀ (l : List (Int × Int)), joinL (l.map itemS) = printL l
  | [] => rfl
  | [x] => by simp [joinL, printL, itemS]
  | x :: y :: r => by
    have ih := joinL_print (y :: r)
    simp only [List.map_cons, joinL, printL] at ih ⊢
    rw [ih]; simp [itemS]
theorem itemS_size (x : Int × Int) : (itemS x).size ≤ 17 := by
  rw [← size_data]; simpa [itemS] using itemT_len x
theorem itemT_one {x : Int × Int} (h : x.2 = x.1) : itemT x = spellP x.1 := by unfold itemT; rw [if_pos h, List.append_nil]
theorem itemT_two {x : Int × Int} (h : ¬ x.2 = x.1) : itemT x = spellP x.1 ++ 45 :: spellP x.2 := by unfold itemT; rw [if_neg h]

set_option maxRecDepth 100000 in
set_option maxHeartbeats 2000000 in
theorem rPrint_any (A : Option Addr) (n c : Nat) (l : List (Int × Int)) (w : World) (hT : TabB w) (hA : Rd w 2 A (l.map encR)) (hl : l.length = n) (hn : n ≤ 4000000) :
    Calls Tryz.prog 53 #[.slice A n c] w fun e w' => e = .returned (.string ⟨(printP l).toArray⟩) ∧ Below w.heap.size w w' := by
  obtain ⟨i0, hi0, hz0, hz1, hz2⟩ := info_parts infoStr
  have Hl := Lib.hid hl
  have HNF := Lib.hid (normR_NF l)
  clear hl
  go_enter Tryz.func53, Tryz.ntmps53
  go_wp2_with fail
  refine (rNorm_any A n c l _ hA Hl.out hn).mono ?_
  rintro e w1 ⟨A1, n1, c1, rfl, ho1, hb1⟩
  have Hl1 := Lib.hid (show (normR l).length = n1 by simpa using ho1.len)
  have hn1 : n1 ≤ 557056 := by have := HNF.out.len; have := Hl1.out; omega
  have hA1 := ho1.rd (by decide)
  have hT1 := hT.below hb1
  have hc1 := ho1.cap
  clear ho1
  go_wp2_with fail
  go_loopw [3, 10] (fun v3 v10 wr => ∃ (k : Nat) (A2 : Option Addr) (n2 c2 : Nat), v3 = .slice A2 n2 c2 ∧ v10 = .int .i64 k ∧ k ≤ n1 ∧ Own wr w1.heap.size 9 1 A2 n2 c2 ((((normR l).take k).map itemS).map encStr) ∧ Below w1.heap.size w1 wr) (fun _ v10 _ => n1 - (intOf v10).toNat)
  case atStart => exact ⟨0, none, 0, 0, rfl, rfl, by omega, Own.nil_ _ _ _ _, Below.refl _ _⟩
  case round =>
    obtain ⟨k, A2, n2, c2, rfl, rfl, hk, ho, hb⟩ := hrel
    have hl2 : n2 ≤ k := by have h1 := ho.len; rw [List.length_map, List.length_map, List.length_take] at h1; omega
    by_cases hlt : k < n1
    · obtain ⟨bb, off, lo, hi, rfl, Hx, d0, d1⟩ := (hA1.below hb).atR (k := k) (by have := Hl1.out; omega)
      have hxb := HNF.out.2 _ (List.mem_of_getElem? Hx.out)
      have hxl := Nf_le HNF.out.1 _ (List.mem_of_getElem? Hx.out)
      simp only at hxb hxl
      obtain ⟨a, rfl⟩ : ∃ a : Nat, lo = (a : Int) := ⟨lo.toNat, by omega⟩
      obtain ⟨b, rfl⟩ : ∃ b : Nat, hi = (b : Int) := ⟨hi.toNat, by omega⟩
      have ha : a ≤ 1114111 := by omega
      have hb9 : b ≤ 1114111 := by omega
      have HT := Lib.hid (show (normR l).take (k + 1) = (normR l).take k ++ [((a : Int), (b : Int))] by rw [List.take_add_one, Hx.out]; rfl)
      have hb0 : Below wr.heap.size wr (wr.alloc (.cells #[.int .i32 a, .int .i32 b] 80)) := (Below.refl _ _).alloc (Nat.le_refl _) _
      have BX : Blk (wr.alloc (.cells #[.int .i32 a, .int .i32 b] 80)) wr.heap.size 80 #[.int .i32 a, .int .i32 b] := Blk.new _ _ _
      have hT2 := (hT1.below hb).below hb0
      go_wp2_with fail
      refine (rspell_any a _ ha hT2).mono ?_
      rintro e w2 ⟨rfl, hb2⟩
      replace BX := BX.below hb2
      replace hT2 := hT2.below hb2
      have hb3 := below_two hb0 hb2
      have ho3 := ho.below hb3
      have e0 := BX.cell 0
      have e1 := BX.cell 1
      simp only [List.getElem?_toArray, List.getElem?_cons_zero, List.getElem?_cons_succ] at e0 e1
      obtain ⟨S1, hS1⟩ : ∃ S : ByteArray, (⟨(spellP (a : Int)).toArray⟩ : ByteArray) = S := ⟨_, rfl⟩
      rw [hS1]
      have hq1 : S1.size ≤ 8 := by rw [← hS1, ← size_data]; simpa using spellP_len (a : Int)
      have HS1 := Lib.hid hS1
      clear hS1 hb0 hb2 d0 d1 ho
      have hb4 : Below w1.heap.size w1 w2 := below_step hb hb3 hb.size
      clear hb hb3
      by_cases he : b = a
      · subst he
        have Hs := Lib.hid (show itemS ((b : Int), (b : Int)) = S1 by unfold itemS; rw [itemT_one rfl, HS1.out])
        go_wp2_with (at_builtin; go_must (refine wpList_app rfl (.tmp 28) (.tmp 30) _ rfl w1.heap.size 9 i0 _ 1 16 Tryz.underlying35 hi0 hz0 hz1 hz2 rfl (by omega) A2 n2 c2 _ rfl (ho3.alloc _) _ 1 1 [encStr S1] rfl rfl (Rd.newAt (by simp) rfl) (encStr_ok [S1]) (by unfold maxLen; omega) (by omega) (by have := hb4.size; simp; omega) ?_); intro A3 c3 w3 ho4 hg4 hA4)
        have ho5 : Own w3 w1.heap.size 9 1 A3 (n2 + 1) c3 ((((normR l).take (k + 1)).map itemS).map encStr) := by
          rw [HT.out, List.map_append, List.map_append, List.map_singleton, List.map_singleton, Hs.out]; exact ho4
        have hb5 := below_app (hb4.alloc hb4.size _) hg4 (by have := hb4.size; simp; omega) (fun a ha => (ho3.lt a ha).1)
        clear ho4 hg4 ho3
        go_roundw
        case rel => exact ⟨k + 1, A3, n2 + 1, c3, rfl, by go_num, by omega, ho5, hb5⟩
        case measure => simp [intOf]; omega
      · have hne : ((b : Int) != (a : Int)) = true := by rw [bne_iff_ne]; omega
        go_wp2_with fail
        refine (rspell_any b _ hb9 hT2).mono ?_
        rintro e w2b ⟨rfl, hb6⟩
        have ho3b := ho3.below hb6
        have hb7 : Below w1.heap.size w1 w2b := below_step hb4 hb6 hb4.size
        obtain ⟨S2, hS2⟩ : ∃ S : ByteArray, (⟨(spellP (b : Int)).toArray⟩ : ByteArray) = S := ⟨_, rfl⟩
        rw [hS2]
        have Hs := Lib.hid (show itemS ((a : Int), (b : Int)) = S1 ++ ((⟨#[45]⟩ : ByteArray) ++ S2) by
          unfold itemS
          rw [itemT_two (fun e => he (by simp only at e; omega)), ← HS1.out, ← hS2]
          apply ByteArray.ext; rw [← Array.toList_inj]; simp)
        have hq2 : S2.size ≤ 8 := by rw [← hS2, ← size_data]; simpa using spellP_len (b : Int)
        have HS2 := Lib.hid hS2
        clear hS2 hb6 hb4 ho3 he hne e0 e1
        have hb4 := hb7
        have ho3 := ho3b
        clear ho3b hb7
        go_wp2_with (at_builtin; go_must (refine wpList_app rfl (.tmp 28) (.tmp 30) _ rfl w1.heap.size 9 i0 _ 1 16 Tryz.underlying35 hi0 hz0 hz1 hz2 rfl (by omega) A2 n2 c2 _ rfl (ho3.alloc _) _ 1 1 [encStr (S1 ++ ((⟨#[45]⟩ : ByteArray) ++ S2))] rfl rfl (Rd.newAt (by simp) rfl) (encStr_ok [_]) (by unfold maxLen; omega) (by omega) (by have := hb4.size; simp; omega) ?_); intro A3 c3 w3 ho4 hg4 hA4)
        have ho5 : Own w3 w1.heap.size 9 1 A3 (n2 + 1) c3 ((((normR l).take (k + 1)).map itemS).map encStr) := by
          rw [HT.out, List.map_append, List.map_append, List.map_singleton, List.map_singleton, Hs.out]; exact ho4
        have hb5 := below_app (hb4.alloc hb4.size _) hg4 (by have := hb4.size; simp; omega) (fun a ha => (ho3.lt a ha).1)
        clear ho4 hg4 ho3
        go_roundw
        case rel => exact ⟨k + 1, A3, n2 + 1, c3, rfl, by go_num, by omega, ho5, hb5⟩
        case measure => simp [intOf]; omega
    · obtain rfl : n1 = k := by omega
      have HE := Lib.hid (show (normR l).take n1 = normR l from List.take_of_length_le (by have := Hl1.out; omega))
      rw [HE.out] at ho
      have hcap := ho.cap
      have hlen := ho.len
      rw [List.length_map, List.length_map, Hl1.out] at hlen
      have Hlen := Lib.hid hlen
      have hn2 : n2 ≤ 600000 := by omega
      have HP := Lib.hid (joinL_print (normR l))
      have hlm : ((normR l).map itemS).length = n2 := by rw [List.length_map, Hl1.out]; exact hlen
      have Hlm := Lib.hid hlm
      clear hlen hlm
      go_wp2_with fail
      refine (lJoin_any A2 n2 c2 ((normR l).map itemS) wr (ho.rd (by decide)) Hlm.out hcap.1 hn2 (fun s hs => by
        obtain ⟨x, _, rfl⟩ := List.mem_map.1 hs
        have := itemS_size x; omega)).mono ?_
      rintro e w2 ⟨rfl, hb2⟩
      rw [HP.out]
      go_wp2
      go_ret
      exact ⟨rfl, below_two (below_two hb1 hb) hb2⟩
end Go.Proofs.YtejccafolfeabaaGreatDoor

/-
  props.(*Db).Text, walked.
-/
namespace Go.Proofs.YtejccafolfeabaaGreatDoor
open Go.RowKit Go.Maps

theorem textG_le (N : List (List UInt8)) (S : List (List (Int × Int))) (k : Nat) (hN : ∀ n ∈ N, n.length ≤ 32) (hk : N.length ≤ 64) (hS : lenS S ≤ 1114112) : (textG (N.take k) (S.take k)).length ≤ 30000000 := by
  have h1 := textG_len (N.take k) (S.take k)
  have h2 : lenS (S.take k) ≤ lenS S := by
    have h3 : lenS S = lenS (S.take k) + lenS (S.drop k) := by
      conv => lhs; rw [← List.take_append_drop k S]
      exact lenS_append _ _
    omega
  have h4 : ∀ (M : List (List UInt8)), (∀ n ∈ M, n.length ≤ 32) → lenS M ≤ 32 * M.length := by
    intro M hM
    induction M with
    | nil => simp [lenS]
    | cons a r ih => have := hM a (by simp); have := ih (fun n hn => hM n (by simp [hn])); simp only [lenS, List.length_cons]; omega
  have h5 := h4 (N.take k) (fun n hn => hN n (List.mem_of_mem_take hn))
  rw [List.length_take] at h1 h5
  omega

theorem itemT_ne (x : Int × Int) : itemT x ≠ [] := fun h => by
  unfold itemT at h
  have := (List.append_eq_nil_iff.1 h).1
  unfold spellP at this
  simp at this

set_option maxRecDepth 100000 in
set_option maxHeartbeats 8000000 in
theorem wText_any (p : Nat) (d : DbP) (w : World) (h : DbAt w p d) (ho : d.Ok) (ha : Apart d.sets) (hnm : d.Named) (hT : TabB w) :
    Calls Tryz.prog 23 #[.pointer (some ⟨p, 0, none⟩)] w fun e w' => e = .returned (.string (bytesOf d.text)) ∧ Below w.heap.size w w' := by
  obtain ⟨An, nn, cn, bm, nm, D, As, ns, cs, xs, Ar, nr, cr, hp, hN, _, _, hS, hX, _⟩ := h.ex
  have hln : d.names.length = nn := by simpa using hN.len
  have hlx : xs.length = ns := by simpa using hS.len
  have hls : xs.length = d.full.length := hX.len
  have hns : ns = nn := by have := full_len ho; omega
  subst hns
  have hn0 : 0 < ns := by
    have h3 := ho.head
    cases hd : d.names with
    | nil => rw [hd] at h3; cases h3
    | cons a b => rw [hd] at hln; simp at hln; omega
  have hn64 : ns ≤ 64 := by have := ho.few; omega
  obtain ⟨g, rfl, _, hgw⟩ := hN.form hn0
  obtain ⟨gs, rfl, _, hgsw⟩ := hS.form hn0
  have HNm := Lib.hid (fun k n (hk : d.names[k]? = some n) => (name_part (hnm n (List.mem_of_getElem? hk))).2.1)
  have HNF := Lib.hid (fun k s (hk : d.full[k]? = some s) => full_NF ho s (List.mem_of_getElem? hk))
  have HTx := Lib.hid (fun k => textG_le d.names.tail d.sets.tail k (fun n hn => (name_part (hnm n (List.mem_of_mem_tail hn))).2.1) (by rw [List.length_tail]; omega) (by have := (rng_len ho ha); omega))
  have HText : Hid (d.text = textG d.names.tail d.sets.tail) := rfl
  have Hln := Lib.hid hln
  have Hls := Lib.hid (show d.sets.tail.length + 1 = ns by have := full_len ho; rw [show d.full = d.rest :: d.sets.tail from rfl, List.length_cons] at this; omega)
  have hcap := hN.cap.1
  have c0 := hp.cell 0
  have c2 := hp.cell 2
  simp only [List.getElem?_toArray, List.getElem?_cons_zero, List.getElem?_cons_succ] at c0 c2
  have HpB := Lib.hid hp
  clear ho ha hnm h hln hls
  by_cases hcs : cn = 1
  · have k0 := cell_keep c0 ((Below.refl w.heap.size w).alloc (Nat.le_refl _) (.cells #[.pointer none, .slice none 0 0] 90))
    go_enter Tryz.func23, Tryz.ntmps23
    go_wp2_with fail
    clear k0
    have hBn := Bld.new w (w.heap.size + 1)
    have hb0 : Below w.heap.size w (w.alloc (.cells #[.pointer none, .slice none 0 0] 90)) := (Below.refl _ _).alloc (Nat.le_refl _) _
    go_loopw [15] (fun v wr => ∃ c : Nat, v = .int .i64 c ∧ c + 1 ≤ ns ∧ Bld wr w.heap.size (w.heap.size + 1) (textG (d.names.tail.take c) (d.sets.tail.take c)) ∧ Below w.heap.size w wr) (fun v _ => ns - (intOf v).toNat)
    case atStart => exact ⟨0, rfl, by omega, by simpa [textG] using hBn, hb0⟩
    case round =>
      clear hBn hb0
      obtain ⟨c, rfl, hc, hB, hb⟩ := hrel
      have hBz := hB.lt
      by_cases hlt : c + 1 < ns
      · exact absurd hlt (by omega)
      · obtain rfl : c + 1 = ns := by omega
        have HE : Hid (textG (d.names.tail.take c) (d.sets.tail.take c) = d.text) := Lib.hid (by rw [HText.out, List.take_of_length_le (by rw [List.length_tail]; have := Hln.out; omega), List.take_of_length_le (by have := Hls.out; omega)])
        rw [HE.out] at hB
        go_wp2_with (go_at_call 55; refine (bString_any w.heap.size (w.heap.size + 1) d.text wr hB (Nat.le_succ _)).mono ?_; rintro e w5 ⟨rfl, hb5, _⟩)
        go_ret
        exact ⟨rfl, hb.trans hb5⟩
  · have k0 := cell_keep c0 ((Below.refl w.heap.size w).alloc (Nat.le_refl _) (.cells #[.pointer none, .slice none 0 0] 90))
    go_enter Tryz.func23, Tryz.ntmps23
    go_wp2_with fail
    clear k0
    have hBn := Bld.new w (w.heap.size + 1)
    have hb0 : Below w.heap.size w (w.alloc (.cells #[.pointer none, .slice none 0 0] 90)) := (Below.refl _ _).alloc (Nat.le_refl _) _
    go_loopw [15] (fun v wr => ∃ c : Nat, v = .int .i64 c ∧ c + 1 ≤ ns ∧ Bld wr w.heap.size (w.heap.size + 1) (textG (d.names.tail.take c) (d.sets.tail.take c)) ∧ Below w.heap.size w wr) (fun v _ => ns - (intOf v).toNat)
    case atStart => exact ⟨0, rfl, by omega, by simpa [textG] using hBn, hb0⟩
    case round =>
      clear hBn hb0
      obtain ⟨c, rfl, hc, hB, hb⟩ := hrel
      have hBz := hB.lt
      by_cases hlt : c + 1 < ns
      · have hdc : decide (c < ns - 1) = true := decide_eq_true (by omega)
        obtain ⟨n, Hn⟩ : ∃ n, Hid (d.names[c + 1]? = some n) := ⟨_, Lib.hid (List.getElem?_eq_getElem (show c + 1 < d.names.length by have := Hln.out; omega))⟩
        obtain ⟨s, Hs⟩ : ∃ s, Hid (d.full[c + 1]? = some s) := ⟨_, Lib.hid (List.getElem?_eq_getElem (show c + 1 < d.full.length by have := hX.len; omega))⟩
        obtain ⟨⟨yA, yn, yc⟩, Hy⟩ : ∃ y, Hid (xs[c + 1]? = some y) := ⟨_, Lib.hid (List.getElem?_eq_getElem (show c + 1 < xs.length by omega))⟩
        have hoy : Own w 0 80 2 yA yn yc (s.map encR) := hX.own (c + 1) (yA, yn, yc) s Hy.out Hs.out
        have hnl := HNm.out _ n Hn.out
        have hNF := HNF.out _ s Hs.out
        have hyn := own_nf_len hoy hNF
        have hly : s.length = yn := by simpa using hoy.len
        have hcn : wr.cell? ⟨g, 1 + c, none⟩ = some (.string (bytesOf n)) := by
          have h1 := hN.cell (k := c + 1) (j := 0) (x := encNm n) (u := .string (bytesOf n)) (by rw [List.getElem?_map, Hn.out]; rfl) rfl
          simp only [Nat.mul_one, Nat.add_zero] at h1
          rw [Nat.add_comm]; exact cell_keep h1 hb
        have hcy : wr.cell? ⟨gs, c + 1, none⟩ = some (.slice yA yn yc) := cell_keep (hS.cell' rfl Hy.out) hb
        have e0 := cell_keep c0 hb
        have e2 := cell_keep c2 hb
        have HP := Lib.hid (rPrint_any yA yn yc s wr (cell_keep hT hb) ((hoy.rd (by omega)).below hb) hly (by omega))
        have hpr : printP s = printL s := by unfold printP; rw [normR_of_NF hNF]
        have hprl := printL_len s
        have HTake := Lib.hid (textG_take d.names.tail d.sets.tail c n s (by rw [List.getElem?_tail]; exact Hn.out) (by exact Hs.out))
        have HSet := Lib.hid (setT_eq s)
        rw [hpr] at HP
        obtain ⟨P, HPd⟩ : ∃ P : ByteArray, Hid ((⟨(printL s).toArray⟩ : ByteArray) = P) := ⟨_, rfl⟩
        have hPs : P.size ≤ 20100000 := by rw [← HPd.out, ← size_data]; simp only []; omega
        have HPl : Hid (P.data.toList = printL s) := Lib.hid (by rw [← HPd.out])
        have hbn : (bytesOf n).size ≤ 32 := by rw [bytesOf_size]; exact hnl
        rw [HPd.out] at HP
        have hlen := HTx.out c
        have hI1 : (1 : Int) + c < ns := by omega
        have hI2 : (c : Int) + 1 < ns := by omega
        clear hNF hpr hly hoy hprl
        by_cases hse : s = []
        · have hem : P.toList.isEmpty = true := by rw [ByteArray.toList_eq, HPl.out, hse]; rfl
          have HL : Hid (∀ X : ByteArray, X.data.toList = P.data.toList ++ [59, 32] ++ n ++ [10] → textG (d.names.tail.take c) (d.sets.tail.take c) ++ X.data.toList = textG (d.names.tail.take (c + 1)) (d.sets.tail.take (c + 1))) := Lib.hid (fun X hX => by
            rw [hX, HTake.out, lineT, HSet.out, HPl.out, if_pos hse]; simp)
          clear hse HTake HSet HPl
          go_wp2_with fail
          refine HP.out.mono ?_
          rintro e w2 ⟨rfl, hb2⟩
          have hB2 := hB.below hb2
          have hbw := below_step hb hb2 hb.size
          go_wp2_with fail
          have s1 : (⟨#[59, 32]⟩ : ByteArray).size = 2 := rfl
          have s2 : (⟨#[10]⟩ : ByteArray).size = 1 := rfl
          have s3 : (⟨#[32]⟩ : ByteArray).size = 1 := rfl
          refine (lWriteString_any w.heap.size (w.heap.size + 1) _ _ w2 hB2 (by omega) (by simp only [ByteArray.size_append, bytesOf_size] at *; omega) (by have := hb2.size; omega)).mono ?_
          rintro e w3 ⟨rfl, hB3, hb3, _, _⟩
          rw [HL.out _ (by simp [bytesOf])] at hB3
          go_wp2
          go_roundw
          case rel => exact ⟨c + 1, by go_num, by omega, hB3, hbw.trans hb3⟩
          case measure => simp [intOf]; omega
        · have hem : P.toList.isEmpty = false := by
            rw [ByteArray.toList_eq, HPl.out]
            have h1 := HSet.out
            cases hq : printL s with
            | nil =>
              cases s with
              | nil => exact absurd rfl hse
              | cons a b =>
                cases b with
                | nil => simp [printL] at hq; have := itemT_ne a; exact absurd hq this
                | cons u v => simp [printL] at hq
            | cons a b => rfl
          have HL : Hid (∀ X : ByteArray, X.data.toList = P.data.toList ++ [32] ++ [59, 32] ++ n ++ [10] → textG (d.names.tail.take c) (d.sets.tail.take c) ++ X.data.toList = textG (d.names.tail.take (c + 1)) (d.sets.tail.take (c + 1))) := Lib.hid (fun X hX => by
            rw [hX, HTake.out, lineT, HSet.out, HPl.out, if_neg hse]; simp)
          clear hse HTake HSet HPl
          go_wp2_with fail
          refine HP.out.mono ?_
          rintro e w2 ⟨rfl, hb2⟩
          have hB2 := hB.below hb2
          have hbw := below_step hb hb2 hb.size
          go_wp2_with fail
          have s1 : (⟨#[59, 32]⟩ : ByteArray).size = 2 := rfl
          have s2 : (⟨#[10]⟩ : ByteArray).size = 1 := rfl
          have s3 : (⟨#[32]⟩ : ByteArray).size = 1 := rfl
          refine (lWriteString_any w.heap.size (w.heap.size + 1) _ _ w2 hB2 (by omega) (by simp only [ByteArray.size_append, bytesOf_size] at *; omega) (by have := hb2.size; omega)).mono ?_
          rintro e w3 ⟨rfl, hB3, hb3, _, _⟩
          rw [HL.out _ (by simp [bytesOf])] at hB3
          go_wp2
          go_roundw
          case rel => exact ⟨c + 1, by go_num, by omega, hB3, hbw.trans hb3⟩
          case measure => simp [intOf]; omega
      · obtain rfl : c + 1 = ns := by omega
        have HE : Hid (textG (d.names.tail.take c) (d.sets.tail.take c) = d.text) := Lib.hid (by rw [HText.out, List.take_of_length_le (by rw [List.length_tail]; have := Hln.out; omega), List.take_of_length_le (by have := Hls.out; omega)])
        rw [HE.out] at hB
        go_wp2_with (go_at_call 55; refine (bString_any w.heap.size (w.heap.size + 1) d.text wr hB (Nat.le_succ _)).mono ?_; rintro e w5 ⟨rfl, hb5, _⟩)
        go_ret
        exact ⟨rfl, hb.trans hb5⟩
set_option maxRecDepth 100000 in
theorem wText_nil (w : World) : Calls Tryz.prog 23 #[.pointer none] w fun e w' => e = .returned (.string (bytesOf [])) ∧ w' = w := by
  go_enter Tryz.func23, Tryz.ntmps23
  go_wp2
  go_ret
  exact ⟨rfl, rfl⟩
end Go.Proofs.YtejccafolfeabaaGreatDoor

/-
  PLAIN: databases that are written down: checked by reckoning; the two texts that every statement of kerflaw04 tries. No walk.
-/
namespace Go.Proofs.YtejccafolfeabaaGreatDoor

def offB (x y : Int × Int × Nat) : Bool := decide (x.2.1 < y.1) || decide (y.2.1 < x.1)
def offAll : List (Int × Int × Nat) → Bool
  | [] => true
  | x :: r => r.all (offB x) && offAll r
theorem offAll_spec : ∀ {l : List (Int × Int × Nat)}, offAll l = true → l.Pairwise Off
  | [], _ => .nil
  | x :: r, h => by
    simp only [offAll, Bool.and_eq_true, List.all_eq_true] at h
    refine .cons (fun y hy => ?_) (offAll_spec h.2)
    have := h.1 y hy
    simpa [offB, Off] using this
theorem entG_apart : ∀ {S : List (List (Int × Int))} {c : Nat}, (entG c S).Pairwise Off → Apart S
  | [], c, _ => fun i j a b hi => by simp at hi
  | s :: S, c, h => by
    unfold entG at h
    rw [List.pairwise_append] at h
    have ih := entG_apart h.2.1
    have hx : ∀ (j : Nat) (b : List (Int × Int)), S[j]? = some b → ∀ r, memR s r → memR b r → False := fun j b hb r ⟨x, hx, h1, h2⟩ ⟨y, hy, h3, h4⟩ => by
      have := h.2.2 (x.1, x.2, c) (List.mem_map.2 ⟨x, hx, rfl⟩) (y.1, y.2, c + 1 + j) (mem_entG.2 ⟨j, b, hb, hy, rfl⟩)
      unfold Off at this; simp only at this; omega
    intro i j a b hi hj hij r ha hb
    cases i with
    | zero =>
      cases j with
      | zero => omega
      | succ j => simp at hi hj; subst hi; exact hx j b hj r ha hb
    | succ i =>
      cases j with
      | zero => simp at hi hj; subst hj; exact hx i a hi r hb ha
      | succ j => exact ih i j a b (by simpa using hi) (by simpa using hj) (by omega) r ha hb
def nfB : List (Int × Int) → Bool
  | [] => true
  | x :: r => decide (0 ≤ x.1) && decide (x.1 ≤ x.2) && decide (x.2 ≤ 1114111) && r.all (fun y => decide (x.2 + 1 < y.1)) && nfB r
theorem nfB_spec : ∀ {l : List (Int × Int)}, nfB l = true → NF l
  | [], _ => ⟨trivial, by simp⟩
  | x :: r, h => by
    simp only [nfB, Bool.and_eq_true, List.all_eq_true, decide_eq_true_eq] at h
    obtain ⟨⟨⟨⟨h1, h2⟩, h3⟩, h4⟩, h5⟩ := h
    have ih := nfB_spec h5
    refine ⟨⟨h2, h4, ih.1⟩, fun y hy => ?_⟩
    rcases List.mem_cons.1 hy with rfl | hy
    · exact ⟨h1, h3⟩
    · exact ih.2 y hy
def nodB : List (List UInt8) → Bool
  | [] => true
  | x :: r => r.all (fun y => !(y == x)) && nodB r
theorem nodB_spec : ∀ {l : List (List UInt8)}, nodB l = true → l.Nodup
  | [], _ => .nil
  | x :: r, h => by
    simp only [nodB, Bool.and_eq_true, List.all_eq_true] at h
    refine List.nodup_cons.2 ⟨fun hx => ?_, nodB_spec h.2⟩
    have := h.1 x hx
    simp at this
/-- A database that is written down is one. -/
def DbP.okB (d : DbP) : Bool :=
  decide (d.sets.length = d.names.length) && d.sets.all nfB && nodB d.names && decide (d.names.head? = some otherL) && decide (d.sets.head? = some []) && decide (d.names.length ≤ 64) && offAll (entG 0 d.sets) && d.names.all nameL
theorem DbP.okB_spec {d : DbP} (h : d.okB = true) : d.Ok ∧ Apart d.sets ∧ d.Named := by
  simp only [DbP.okB, Bool.and_eq_true, List.all_eq_true, decide_eq_true_eq] at h
  obtain ⟨⟨⟨⟨⟨⟨⟨h1, h2⟩, h3⟩, h4⟩, h5⟩, h6⟩, h7⟩, h8⟩ := h
  exact ⟨⟨h1, fun l hl => nfB_spec (h2 l hl), nodB_spec h3, h4, h5, h6⟩, entG_apart (offAll_spec h7), h8⟩
/-- Whose text it is, of that it is the database. -/
theorem new_of {d : DbP} {t : List UInt8} (h : d.okB = true) (ht : (d.text == t) = true) (hl : decide (t.length ≤ 65536) = true) : newP t = .ok d := by
  obtain ⟨h1, h2, h3⟩ := DbP.okB_spec h
  have e : d.text = t := by simpa using ht
  subst e
  exact text_back h1 h2 h3 (by simpa using hl)

/- The two texts. -/
def extL : List UInt8 := [69, 120, 116, 101, 110, 100]
def letL : List UInt8 := [76, 101, 116, 116, 101, 114]
def smallD : DbP := ⟨[otherL, extL, letL], [[], [(768, 879)], [(97, 122), (233, 233)]]⟩
def smallT : List UInt8 := [85, 43, 48, 51, 48, 48, 45, 85, 43, 48, 51, 54, 70, 32, 59, 32, 69, 120, 116, 101, 110, 100, 10, 85, 43, 48, 48, 54, 49, 45, 85, 43, 48, 48, 55, 65, 32, 85, 43, 48, 48, 69, 57, 32, 59, 32, 76, 101, 116, 116, 101, 114, 10]
set_option maxRecDepth 100000 in
theorem small_ok : smallD.okB = true := by decide
set_option maxRecDepth 100000 in
theorem small_text : smallD.text = smallT := by decide
theorem new_small : newP smallT = .ok smallD := new_of small_ok (by rw [small_text]; simp) (by decide)
theorem small_get : smallD.get 101 = 2 ∧ smallD.get 769 = 1 ∧ smallD.get 65533 = 0 := by decide
theorem small_class : smallD.num letL = some 2 := by decide
theorem small_rng : smallD.rng.length = 3 := by rw [(rng_perm _).length_eq]; decide
/-- "'a' ; A", "'a'-'b' ; B". -/
def clashL1 : List UInt8 := [39, 97, 39, 32, 59, 32, 65]
def clashL2 : List UInt8 := [39, 97, 39, 45, 39, 98, 39, 32, 59, 32, 66]
def clashT : List UInt8 := clashL1 ++ 10 :: clashL2
theorem clash_says1 : lineP clashL1 = .says [65] [39, 97, 39, 32] := by rfl
theorem clash_says2 : lineP clashL2 = .says [66] [39, 97, 39, 45, 39, 98, 39, 32] := by rfl
theorem clash_parse1 : parseE (spcL [39, 97, 39, 32]) = .ok [(97, 97)] := by rfl
theorem clash_parse2 : parseE (spcL [39, 97, 39, 45, 39, 98, 39, 32]) = .ok [(97, 98)] := by rfl
theorem clash_nf1 : normR [(97, 97)] = [(97, 97)] := normR_of_NF (nfB_spec (by decide))
theorem clash_nf2 : normR [(97, 98)] = [(97, 98)] := normR_of_NF (nfB_spec (by decide))
theorem clash_or : orR [] [(97, 97)] = [(97, 97)] := by unfold orR; exact clash_nf1
theorem clash_step1 : stepL DbP.first clashL1 = .ok ⟨[otherL, [65]], [[], [(97, 97)]]⟩ := by
  unfold stepL
  rw [clash_says1]
  simp only
  unfold addL
  rw [if_neg (by decide), clash_parse1]
  simp only
  rw [clash_nf1, clash_or]
  rfl
theorem clash_step2 : stepL ⟨[otherL, [65]], [[], [(97, 97)]]⟩ clashL2 = .error 41 := by
  unfold stepL
  rw [clash_says2]
  simp only
  unfold addL
  rw [if_neg (by decide), clash_parse2]
  simp only
  rw [clash_nf2]
  rfl
theorem new_clash : newP clashT = .error (41, 2) := by
  unfold newP
  rw [if_neg (by decide)]
  have : splitL clashT = [clashL1, clashL2] := by decide
  rw [this]
  unfold linesGo
  rw [clash_step1]
  simp only
  unfold linesGo
  rw [clash_step2]
end Go.Proofs.YtejccafolfeabaaGreatDoor

/-
  kerflaw04: num, live, walked.
-/
namespace Go.Proofs.YtejccafolfeabaaGreatDoor
open Go.RowKit Go.Maps

theorem qnum_any (e : Int) (w : World) : Calls Tryz.prog 15 #[.int .i64 e] w fun en w' => en = .returned (.int .i64 e) ∧ w = w' := by
  go_enter Tryz.func15, Tryz.ntmps15
  go_wp2
  go_ret
  exact ⟨rfl, rfl⟩
theorem small_of : ofC smallD ⟨#[101, 204, 129, 255]⟩ = [2, 1, 0] := by
  have h : runesP ⟨#[101, 204, 129, 255]⟩ = [(101, 0, 1), (769, 1, 3), (65533, 3, 4)] := by decide +kernel
  unfold ofC
  rw [h]
  obtain ⟨h1, h2, h3⟩ := small_get
  show [smallD.get 101, smallD.get 769, smallD.get 65533] = [2, 1, 0]
  rw [h1, h2, h3]

set_option maxRecDepth 100000 in
set_option maxHeartbeats 8000000 in
theorem qlive_any (w : World) (hE : Env w) : Calls Tryz.prog 12 #[] w fun e w' => e = .returned (.bool true) ∧ Below w.heap.size w w' := by
  obtain ⟨hok, hap, hnm⟩ := DbP.okB_spec small_ok
  have HO := Lib.hid (And.intro hok (And.intro hap hnm))
  have HN1 := Lib.hid (fun W (h : Env W) => wNew_any smallT W h (by unfold maxLen; decide))
  have HN2 := Lib.hid (fun W (h : Env W) => wNew_any clashT W h (by unfold maxLen; decide))
  rw [new_small] at HN1
  rw [new_clash] at HN2
  clear hok hap hnm
  go_enter Tryz.func12, Tryz.ntmps12
  go_wp2_with fail
  refine (HN1.out w hE).mono ?_
  rintro e w1 ⟨⟨p, rfl, hd⟩, hb1⟩
  have hE1 := hE.below hb1
  go_wp2_with (go_at_call 15; refine (qnum_any _ _).mono ?_; rintro e w' ⟨rfl, rfl⟩)
  refine (HN2.out w1 hE1).mono ?_
  rintro e w2 ⟨he, hb2⟩
  have he : e = .returned (.tuple #[.pointer none, .int .i64 41, .int .i64 2]) := he
  subst he
  have hd2 := hd.below hb2
  go_wp2_with fail
  refine (wOf_any p smallD ⟨#[101, 204, 129, 255]⟩ w2 hd2 HO.out.1 HO.out.2.1 (by decide)).mono ?_
  rw [small_of]
  rintro e w3 ⟨A, n, c, rfl, ho3, hb3⟩
  have hn : 3 = n := ho3.len
  subst hn
  obtain ⟨g, rfl, _, _⟩ := ho3.form (by omega)
  have hd3 := hd2.below hb3
  have hT3 := ((hE1.below hb2).below hb3).tabB
  go_wp2_with fail
  refine (wClass_any p smallD letL w3 hd3 HO.out.1 (by decide)).mono ?_
  rw [small_class]
  rintro e w4 ⟨rfl, hw⟩
  replace hw : w3 = w4 := hw.symm
  subst hw
  go_wp2_with fail
  refine (wNames_any p smallD w3 hd3 HO.out.1).mono ?_
  rintro e w5 ⟨A5, n5, c5, rfl, ho5, hb5⟩
  have hn5 : 3 = n5 := ho5.len
  subst hn5
  have q0 := cell_keep (ho3.cell (k := 0) (j := 0) (x := encN 2) (u := .int .i64 2) rfl rfl) hb5
  have q1 := cell_keep (ho3.cell (k := 1) (j := 0) (x := encN 1) (u := .int .i64 1) rfl rfl) hb5
  have q2 := cell_keep (ho3.cell (k := 2) (j := 0) (x := encN 0) (u := .int .i64 0) rfl rfl) hb5
  simp only [Nat.mul_one, Nat.add_zero] at q0 q1 q2
  have hd5 := hd3.below hb5
  have hT5 := cell_keep hT3 hb5
  have htx : (bytesOf smallD.text).toList = smallT := by rw [ByteArray.toList_eq, bytesOf_list, small_text]
  have HT := Lib.hid (wText_any p smallD w5 hd5 HO.out.1 HO.out.2.1 HO.out.2.2 hT5)
  generalize bytesOf smallD.text = TX at htx HT
  have htb : (TX.toList == smallT) = true := by rw [htx]; exact beq_self_eq_true _
  unfold smallT at htb
  clear htx
  go_wp2_with fail
  refine HT.out.mono ?_
  rintro e w6 ⟨rfl, hb6⟩
  have hd6 := hd5.below hb6
  go_wp2_with (go_at_call 15; refine (qnum_any _ _).mono ?_; rintro e w' ⟨rfl, rfl⟩)
  refine (wRanged_any p smallD w6 hd6 HO.out.1 HO.out.2.1).mono ?_
  rintro e w7 ⟨A7, n7, c7, rfl, ho7, hb7⟩
  have hn7 : 3 = n7 := by have h1 := ho7.len; rw [List.length_map, small_rng] at h1; exact h1
  subst hn7
  go_wp2
  go_ret
  exact ⟨rfl, below_two (below_two (below_two (below_two (below_two hb1 hb2) hb3) hb5) hb6) hb7⟩
end Go.Proofs.YtejccafolfeabaaGreatDoor

