/-
  Several texts in one, in their build order: Rgn, Wl, HexR, PrintS, RefY, Bld, RefZ, LinP, LinQ, LinR, UtfI, Shelf3.
-/
import Derived.Deep.RegionHeld3
import Derived.CallsIn
import Derived.OrdersIn
import Derived.RangeFuncCalls
import Derived.OwnWalkIn
import Derived.Deep.LoopGhost
import Derived.Lib.AppendStr
import Derived.Lib.BufferRead
import Derived.Lib.UnsafeStr
import Derived.Shelf.Strings.BuilderK
import Derived.Lib.OthersKept
import Derived.RangeFuncOwn
import Derived.Shelf.SlGeneric
import Derived.Shelf.SlSortCmp.WholeK
import Derived.Ground.SlsfProg
import Derived.Shelf.Spec.SlicesGrow
import Derived.Shelf.Strings.Builder1
import Derived.Shelf.Strings.Builder2
import Derived.Shelf.Strings.Trim
import Derived.Shelf.Small.Utf8
import Derived.Shelf.Small.Bits
import Derived.Shelf.Small.Strs
import Derived.Shelf.Strings.BuilderF
import Derived.Shelf.Strconv.Itoa0
import Derived.Shelf.Strings.Search1
import Derived.Shelf.Strings.Search2
import Derived.Shelf.Strings.Search3
import Derived.Shelf.Strings.Count
import Derived.Shelf.LaysM
import Derived.Shelf.Strings.Shaped
import Derived.Shelf.Strings.Prefix
import Derived.Shelf.Strings.Split
import Derived.Shelf.Strings.Replace
import Derived.Shelf.Strings.SplitShaped
import Derived.Shelf.Strings.Runes
import Derived.Shelf.Strings.AsciiSet
import Derived.Shelf.Unicode.DecodeSlow
import Derived.Shelf.Unicode.DecodeAny
import Derived.Shelf.Unicode.DecodeLast
import Derived.Ground.Names2Prog
import Derived.Shelf.Slices.SearchI
import Derived.Shelf.Slices.Empties
import Derived.Test.YtlbfbkdcjdeagaaGreatDoorProg
import Derived.Shelf.Unicode.ValidAny
import Derived.Test.YtlbfbkdcjdeagaaGreatDoorZ0a
import Derived.Test.YtlbfbkdcjdeagaaGreatDoorZWc
import Derived.Test.YtlbfbkdcjdeagaaGreatDoorYGraphemeWhole0a
import Derived.Test.YtlbfbkdcjdeagaaGreatDoorZ1a
import Derived.Test.YtlbfbkdcjdeagaaGreatDoorZRefU
import Derived.Test.YtlbfbkdcjdeagaaGreatDoorZShelf
/-
  REGIONS THAT DRAW, IN A ROUND of a range over a function: what holds of such a region outside of rounds holds in them. No program's walk.
-/
namespace Go.Proofs.YtlbfbkdcjdeagaaGreatDoor
open Go Go.RowKit

section
variable {P : Program} {Q : Exit → Act → World → Prop} {l n : Nat}
/-- No operation is a defer statement. -/
def noDefer (ops : Array Oper) : Bool := ops.toList.all fun o => match o.op with | .defer _ => false | _ => true
theorem noDefer_at {ops : Array Oper} (h : noDefer ops = true) {i : Nat} {o : Oper} (ho : ops[i]? = some o) : ∀ c, o.op ≠ .defer c := fun c hc => by
  unfold noDefer at h
  rw [List.all_eq_true] at h
  have := h o (by rw [← Array.getElem?_toList] at ho; exact List.mem_of_getElem? ho)
  rw [hc] at this
  cases this
theorem wpIn_of_wp_round {o : Oper} (hd : ∀ c, o.op ≠ .defer c) {a : Act} {w : World} {K : Act → World → Prop} (h : o.wp P a w K Q) : o.wpIn (Fence.wide.inRound l) n P a w K Q := by
  refine ⟨fun _ _ => trivial, ?_⟩
  rw [Oper.semAt_plain _ _ _ hd]
  unfold Oper.wp at h
  generalize (execOp a.eval o).run P w = r at h ⊢
  cases r with
  | ok x w' =>
    cases x with
    | enter f args => exact ⟨fun h => by simp [Fence.wide, Fence.inRound] at h, CallsIn.inRound l (callsIn_wide.2 h)⟩
    | row row args => exact ⟨fun h => by simp [Fence.wide, Fence.inRound] at h, fun c cs _ => let ⟨v, w2, r1, s1⟩ := h c cs; ⟨v, w2, r1, stepsIn_wide.2 s1⟩⟩
    | round => exact False.elim h
    | _ => exact h
  | halt x w' => cases x <;> exact h
theorem wpOpsIn_round {ops : Array Oper} (hd : noDefer ops = true) (hL : ¬ LetsOut Q) : ∀ (L : List Nat) (a : Act) (w : World), wpOps P ops Q L a w → wpOpsIn (Fence.wide.inRound l) n P ops Q L a w
  | [], _, _, h => h
  | i :: rest, a, w, h => by
    unfold wpOps at h
    unfold wpOpsIn
    cases ho : ops[i]? with
    | none => simp only [ho] at h ⊢; exact wpOpsIn_round hd hL rest a w h
    | some o =>
      simp only [ho] at h ⊢
      by_cases hw : Region.wanted o (yielded ops a.tmps) = true
      · simp only [hw, if_true] at h ⊢
        rcases h with h | h
        · exact Oper.wpIn_mono (fun a w h => wpOpsIn_round hd hL rest a w h) (wpIn_of_wp_round (noDefer_at hd ho) h)
        · exact absurd h.2 hL
      · simp only [hw, if_false, Bool.false_eq_true] at h ⊢
        exact ⟨fun _ _ => trivial, wpOpsIn_round hd hL rest _ w h⟩
/-- A region that draws, in a round, by a condition S that holds all the while. -/
theorem wpIn_region_round {S : World → Prop} {id : Nat} {ops : Array Oper} {a : Act} {w : World} (hm : P.follows .mixedOrders = true) (hd : noDefer ops = true) (hL : ¬ LetsOut Q) (hS : S w.drew)
    (h : S w.drew → wpAnyH P .any ops Q S ops.size (Array.replicate ops.size false) a w.drew) : (Code.region id ops true).wpIn (Fence.wide.inRound l) n P Q a w :=
  wpIn_region_draw fun t => by
    simp only [Region.schedule, hm, Bool.true_or, if_true]
    exact wpOpsIn_round hd hL _ _ _ (wpAny_sound ops.size t _ a _ (wpAny_of_held _ _ _ _ (h hS)))
/-- An operation of the wide fence, in a round. -/
theorem wpIn_of_wide_round {o : Oper} (hd : ∀ c, o.op ≠ .defer c) {a : Act} {w : World} {K : Act → World → Prop} (h : o.wpIn Fence.wide n P a w K Q) : o.wpIn (Fence.wide.inRound l) n P a w K Q := by
  refine ⟨fun _ _ => trivial, ?_⟩
  have h2 := h.2
  rw [Oper.semAt_plain _ _ _ hd] at h2 ⊢
  generalize (execOp a.eval o).run P w = r at h2 ⊢
  cases r with
  | ok x w' =>
    cases x with
    | enter f args => exact ⟨fun h => by simp [Fence.wide, Fence.inRound] at h, CallsIn.inRound l h2.2⟩
    | row row args => exact ⟨fun h => by simp [Fence.wide, Fence.inRound] at h, fun c cs _ => h2.2 c cs (room_wide _)⟩
    | round => exact ⟨fun h => by simp [Fence.wide, Fence.inRound] at h, ⟨h2.2.1, fun c cs _ => h2.2.2 c cs (room_wide _)⟩⟩
    | _ => exact h2
  | halt x w' => cases x <;> exact h2
theorem wpOpsIn_wide_round {ops : Array Oper} (hd : noDefer ops = true) : ∀ (L : List Nat) (a : Act) (w : World), wpOpsIn Fence.wide n P ops Q L a w → wpOpsIn (Fence.wide.inRound l) n P ops Q L a w
  | [], _, _, h => h
  | i :: rest, a, w, h => by
    unfold wpOpsIn at h ⊢
    cases ho : ops[i]? with
    | none => simp only [ho] at h ⊢; exact wpOpsIn_wide_round hd rest a w h
    | some o =>
      simp only [ho] at h ⊢
      by_cases hw : Region.wanted o (yielded ops a.tmps) = true
      · simp only [hw, if_true] at h ⊢
        exact Oper.wpIn_mono (fun a w h => wpOpsIn_wide_round hd rest a w h) (wpIn_of_wide_round (noDefer_at hd ho) h)
      · simp only [hw, if_false, Bool.false_eq_true] at h ⊢
        exact ⟨fun _ _ => trivial, wpOpsIn_wide_round hd rest _ w h.2⟩
/-- A region that draws, in a round, by the wide fence's walk (a yield may stand in it). -/
theorem wpIn_region_wide {id : Nat} {ops : Array Oper} {a : Act} {w : World} (hm : P.follows .mixedOrders = true) (hd : noDefer ops = true)
    (h : wpAnyIn Fence.wide n P .any ops Q ops.size (Array.replicate ops.size false) a w.drew) : (Code.region id ops true).wpIn (Fence.wide.inRound l) n P Q a w :=
  wpIn_region_draw fun t => by
    simp only [Region.schedule, hm, Bool.true_or, if_true]
    exact wpOpsIn_wide_round hd _ _ _ (wpAnyIn_sound ops.size t _ a _ h)
theorem round_deep {m m' : Nat} {f : FuncId} {tmps : Array Value} {assign body : Code} {w : World} {R : Ending → World → Prop} (h : RoundIn Fence.wide m P l f tmps assign body w R) : RoundIn Fence.wide m' P l f tmps assign body w R :=
  ⟨h.1, fun c cs _ => h.2 c cs (room_wide _)⟩
end
end Go.Proofs.YtlbfbkdcjdeagaaGreatDoor

/-
  props.(*Db).Each: an iterator over utf.Each's, walked.
-/
namespace Go.Proofs.YtlbfbkdcjdeagaaGreatDoor
open Go.RowKit Go.Shelf Go.Maps
attribute [local go_sem] Oper.semAt_some

/-- A round's contract at whatever depth, where no depth is asked. -/
theorem round_any {m m' : Nat} {P : Program} {l l2 : Nat} {f : FuncId} {tmps : Array Value} {assign body : Code} {w : World} {R : Ending → World → Prop} (h : RoundIn Fence.wide m P l f tmps assign body w R) : RoundIn (Fence.wide.inRound l2) m' P l f tmps assign body w R :=
  ⟨h.1, fun c cs _ => h.2 c cs (room_wide _)⟩
/-- What a round keeps: what lay below m; cells but in the blocks of X; iterators. -/
def KpB (m : Nat) (X : Nat → Prop) (A B : World) : Prop := RowKit.Below m A B ∧ KC 0 X A B
theorem KpB.refl (m : Nat) (X : Nat → Prop) (W : World) : KpB m X W W := ⟨RowKit.Below.refl _ _, KC.refl _ _ _⟩
theorem KpB.trans {m : Nat} {X : Nat → Prop} {A B C : World} (h : KpB m X A B) (k : KpB m X B C) : KpB m X A C := ⟨h.1.trans k.1, h.2.trans k.2⟩
theorem KpB.put {m : Nat} {X : Nat → Prop} {w : World} (hm : m ≤ w.heap.size) (W : World) (l : Nat) (o o' : Obj) (hl : w.heap.size ≤ l) (h : W.heap[l]? = some o) (hc : o.isCells = false) (hw : o.isWalk = false) : KpB m X W (W.putObj l o') :=
  ⟨belowK_b (w := w) hm W l o o' hl h hc hw, KC.put W l o o' h hc hw⟩
theorem keepsFrom_below {B : Nat} {A C : World} (h : RowKit.Below A.heap.size A C) : KeepsFrom B A C := ⟨h.size, fun k _ _ hk _ => (h.block k (Array.getElem?_eq_some_iff.1 hk).1).trans hk⟩
theorem keepsWalks_below {A C : World} (h : RowKit.Below A.heap.size A C) : KeepsWalks A C := ⟨h.size, fun k _ hk _ => (h.block k (Array.getElem?_eq_some_iff.1 hk).1).trans hk⟩
theorem keeps_later {B C : Nat} {A D : World} (h : KeepsFrom B A D) (hBC : B ≤ C) : KeepsFrom C A D := ⟨h.size, fun k o hk h0 ho => h.same k o (Nat.le_trans hBC hk) h0 ho⟩
/-- A rune's place and its class. -/
def encWc (d : DbP) (x : Nat × Nat × Nat) : Array Value := #[.int .i64 (x.2.1 : Nat), .int .i64 (d.get (x.1 : Nat) : Nat)]
end Go.Proofs.YtlbfbkdcjdeagaaGreatDoor

/-
  kerfref02.Hex: a rune's number in hexadecimal digits.
-/
namespace Go.Proofs.YtlbfbkdcjdeagaaGreatDoor
open Go.RowKit

theorem hexW_succ (j n : Nat) : hexW (j + 1) n = hexD (n / 16 ^ j % 16) :: hexW j n := by
  induction j generalizing n with
  | zero => simp [hexW]
  | succ j ih => rw [hexW, ih, hexW, Nat.div_div_eq_div_mul, ← Nat.pow_succ']; rfl
theorem digits_at (d : Nat) (h : d < 16) : ((⟨#[48, 49, 50, 51, 52, 53, 54, 55, 56, 57, 65, 66, 67, 68, 69, 70]⟩ : ByteArray).extract d (d + 1)).data.toList = [hexD d] := by
  rcases (by omega : d = 0 ∨ d = 1 ∨ d = 2 ∨ d = 3 ∨ d = 4 ∨ d = 5 ∨ d = 6 ∨ d = 7 ∨ d = 8 ∨ d = 9 ∨ d = 10 ∨ d = 11 ∨ d = 12 ∨ d = 13 ∨ d = 14 ∨ d = 15) with rfl | rfl | rfl | rfl | rfl | rfl | rfl | rfl | rfl | rfl | rfl | rfl | rfl | rfl | rfl | rfl <;> rfl
/-- How far Hex has come. -/
def HexAt (r j x : Nat) (t : ByteArray) : Prop := x = r / 16 ^ j ∧ t.data.toList = hexW j r ∧ j ≤ hexK r
theorem hexAt_next {r j x d q : Nat} {t : ByteArray} (h : HexAt r j x t) (hr : r ≤ 1114111) (hc : 0 < x ∨ j < 4) (hd : x = 16 * q + d) (h16 : d < 16) :
    HexAt r (j + 1) q ((⟨#[48, 49, 50, 51, 52, 53, 54, 55, 56, 57, 65, 66, 67, 68, 69, 70]⟩ : ByteArray).extract d (d + 1) ++ t) := by
  obtain ⟨rfl, h2, h3⟩ := h
  refine ⟨by rw [Nat.pow_succ, ← Nat.div_div_eq_div_mul]; omega, ?_, ?_⟩
  · rw [ByteArray.data_append, Array.toList_append, digits_at d h16, h2, hexW_succ]
    have : r / 16 ^ j % 16 = d := by omega
    rw [this]; rfl
  · unfold hexK at h3 ⊢
    rcases hc with hc | hc
    · rcases (by omega : j < 4 ∨ j = 4 ∨ j = 5 ∨ 6 ≤ j) with h | rfl | rfl | h
      · split <;> (try split) <;> omega
      · have : 0 < r / 65536 := hc
        split <;> (try split) <;> omega
      · have : 0 < r / 1048576 := hc
        split <;> (try split) <;> omega
      · have h7 : 16 ^ 6 ≤ 16 ^ j := Nat.pow_le_pow_right (by omega) h
        have h8 : (16 : Nat) ^ 6 = 16777216 := by decide
        have h6 : r / 16 ^ j = 0 := Nat.div_eq_of_lt (Nat.lt_of_lt_of_le (show r < 16 ^ 6 by rw [h8]; omega) h7)
        omega
    · split <;> (try split) <;> omega
theorem hexAt_end {r j : Nat} {t : ByteArray} (h : HexAt r j 0 t) (h4 : 4 ≤ j) : t = ⟨(hexS r).toArray⟩ := by
  obtain ⟨h1, h2, h3⟩ := h
  have hj : j = hexK r := by
    unfold hexK at h3 ⊢
    have hlt : r < 16 ^ j := by
      rcases Nat.lt_or_ge r (16 ^ j) with h | h
      · exact h
      · have := Nat.div_pos h (Nat.pow_pos (by decide : 0 < 16)); omega
    rcases (by omega : j = 4 ∨ j = 5 ∨ 6 ≤ j) with rfl | rfl | h
    · have : r < 65536 := hlt
      rw [if_pos this]
    · have : r < 1048576 := hlt
      split at h3
      · omega
      · rw [if_neg (by assumption), if_pos this]
    · have h9 : (if r < 65536 then 4 else if r < 1048576 then 5 else 6) ≤ 6 := by split <;> (try split) <;> omega
      have h10 : j = 6 := by omega
      subst h10
      by_cases h11 : r < 65536
      · rw [if_pos h11] at h3; omega
      · by_cases h12 : r < 1048576
        · rw [if_neg h11, if_pos h12] at h3; omega
        · rw [if_neg h11, if_neg h12]
  subst hj
  apply ByteArray.ext
  rw [← Array.toList_inj, h2]; rfl
theorem hexAt_len {r j x : Nat} {t : ByteArray} (h : HexAt r j x t) : t.size = j := by rw [← size_data, h.2.1, hexW_len]

end Go.Proofs.YtlbfbkdcjdeagaaGreatDoor

/-
  kerfref02.Print: the spelling of a set.
-/
namespace Go.Proofs.YtlbfbkdcjdeagaaGreatDoor
open Go.RowKit

theorem infoU8' : (Tryz.prog.info? 5).map (fun i => (i.zero, i.size, i.bytes)) = some (some (.int .u8 0), 1, 1) := by kernel_rfl
/-- Bytes that are the call's own. -/
def OwnB (w : World) (B : Nat) (v : Value) (l : List UInt8) : Prop := w.ownsRow B 5 1 v l.length (Lib.byteCells l)
theorem OwnB.below {w w' : World} {B : Nat} {v : Value} {l : List UInt8} (h : OwnB w B v l) (hb : Below w.heap.size w w') : OwnB w' B v l := by
  unfold OwnB at h ⊢
  refine ⟨h.1, ?_⟩
  rcases h.2 with h0 | ⟨g, cap, cur, hv, hg, hh, r⟩
  · exact .inl h0
  · exact .inr ⟨g, cap, cur, hv, hg, (hb.block g (Array.getElem?_eq_some_iff.1 hh).1).trans hh, r⟩
theorem OwnB.convert {w : World} {B : Nat} {v : Value} {l : List UInt8} (h : OwnB w B v l) : (convert 96 9 v).run Tryz.prog w = .ok (.string ⟨l.toArray⟩) w := by
  unfold OwnB at h
  rcases h.2 with ⟨rfl, h0⟩ | ⟨g, cap, cur, rfl, _, hg, _, _, _, ht⟩
  · have : l = [] := List.length_eq_zero_iff.1 h0
    subst this
    exact Lib.run_convert_nil_bytes w 96 9 5 0 Tryz.underlying96 Tryz.underlying5 Tryz.underlying9
  · exact run_convert_bytes_back w 96 9 5 ⟨g, 0, none⟩ cap l Tryz.underlying96 Tryz.underlying5 Tryz.underlying9 (Lib.bytes_of_row hg (by simpa using ht))
theorem OwnB.lt {w : World} {B : Nat} {v : Value} {l : List UInt8} (h : OwnB w B v l) : ∀ k, v.ownBlock = some k → B ≤ k := fun k hk => (World.ownsRow.lt h k hk).1
theorem OwnB.str {w : World} {B : Nat} {v : Value} {l : List UInt8} {s : ByteArray} {n : Nat} (h : w.ownsRow B 5 1 v (n + s.size) (Lib.byteCells l ++ Lib.strCells s)) (hn : n = l.length) : OwnB w B v (l ++ s.data.toList) := by
  unfold OwnB
  subst hn
  have e1 : Lib.byteCells (l ++ s.data.toList) = Lib.byteCells l ++ Lib.strCells s := by simp [Lib.byteCells, Lib.strCells]
  rw [e1, List.length_append, Array.length_toList]
  exact h
theorem OwnB.byte {w : World} {B : Nat} {v : Value} {l : List UInt8} {c : UInt8} {n : Nat} (h : w.ownsRow B 5 1 v (n + 1) (Lib.byteCells l ++ [.int .u8 c.toNat])) (hn : n = l.length) : OwnB w B v (l ++ [c]) := by
  unfold OwnB
  subst hn
  have e1 : Lib.byteCells (l ++ [c]) = Lib.byteCells l ++ [.int .u8 c.toNat] := by simp [Lib.byteCells]
  rw [e1, List.length_append]
  exact h
theorem OwnB.form {w : World} {B : Nat} {v : Value} {l : List UInt8} (h : OwnB w B v l) : ∃ A n c, v = .slice A n c := by
  unfold OwnB at h
  rcases h.2 with ⟨rfl, _⟩ | ⟨g, cap, cur, rfl, _⟩
  · exact ⟨_, _, _, rfl⟩
  · exact ⟨_, _, _, rfl⟩
theorem cell_grown {w w' : World} {o : Obj} {B b i : Nat} {v u : Value} {l : List UInt8} (hu : w.cell? ⟨b, i, none⟩ = some u) (ho : OwnB (w.alloc o) B v l) (hg : (w.alloc o).grownBy w' v.ownBlock) (hb : b < B) : w'.cell? ⟨b, i, none⟩ = some u := by
  have h1 : (w.alloc o).cell? ⟨b, i, none⟩ = some u := cell_keep hu ((Below.refl _ _).alloc (Nat.le_refl _) o)
  exact (World.cell?_of_block (hg.block b (cell_lt h1) (fun e => by have := ho.lt b e.symm; omega))).trans h1
theorem cell_grownS {w w' : World} {B b i : Nat} {v u : Value} {l : List UInt8} (hu : w.cell? ⟨b, i, none⟩ = some u) (ho : OwnB w B v l) (hg : w.grownBy w' v.ownBlock) (hb : b < B) : w'.cell? ⟨b, i, none⟩ = some u :=
  (World.cell?_of_block (hg.block b (cell_lt hu) (fun e => by have := ho.lt b e.symm; omega))).trans hu
theorem below_ownB {B : Nat} {a w w' : World} {v : Value} {l : List UInt8} (h : Below B a w) (ho : OwnB w B v l) (hg : w.grownBy w' v.ownBlock) (hB : B ≤ w.heap.size) : Below B a w' := h.grown hg hB fun k hk => ho.lt k hk
theorem cell_newB (w : World) {t : TypeId} (x : Value) : ∀ j u, [x][j]? = some u → (w.alloc (.cells #[x] t)).cell? ((⟨w.heap.size, 0, none⟩ : Addr).add j) = some u := fun j u h => by
  match j, h with
  | 0, h =>
    obtain rfl : x = u := by simpa using h
    exact (Blk.new w t #[x]).cell 0

end Go.Proofs.YtlbfbkdcjdeagaaGreatDoor

/-
  kerfref02.Trim, Runs, Keep.
-/
namespace Go.Proofs.YtlbfbkdcjdeagaaGreatDoor
open Go.RowKit

/-- What Trim knows of the runes D at a text's end. -/
def trimD (s : ByteArray) (h : Int → Bool) (D : List (Nat × Nat × Nat)) : Nat × Nat :=
  (((D.filter fun x => !h x.1).head?.map (·.2.1)).getD s.size, ((D.filter fun x => !h x.1).getLast?.map (·.2.2)).getD s.size)
theorem trimD_in {s : ByteArray} {h : Int → Bool} {D : List (Nat × Nat × Nat)} {x : Nat × Nat × Nat} (hx : h x.1 = true) : trimD s h (x :: D) = trimD s h D := by
  unfold trimD; rw [List.filter_cons, hx]; rfl
theorem trimD_out {s : ByteArray} {h : Int → Bool} {D : List (Nat × Nat × Nat)} {x : Nat × Nat × Nat} (hx : h x.1 = false) (hb : ∀ y ∈ D, y.2.1 < s.size) :
    trimD s h (x :: D) = (x.2.1, if (trimD s h D).1 = s.size then x.2.2 else (trimD s h D).2) := by
  unfold trimD; rw [List.filter_cons, hx]
  simp only [Bool.not_false, if_true, List.head?_cons, Option.map_some, Option.getD_some]
  cases hf : D.filter fun x => !h x.1 with
  | nil => simp
  | cons y r =>
    have hy : y ∈ D := (List.mem_filter.1 (by rw [hf]; simp : y ∈ D.filter fun x => !h x.1)).1
    have := hb y hy
    rw [List.getLast?_cons_cons]
    have hne : ¬ y.2.1 = s.size := by omega
    simp [hne]
theorem trimD_bd {s : ByteArray} {h : Int → Bool} {D : List (Nat × Nat × Nat)} (hb : ∀ y ∈ D, y.2.1 < s.size ∧ y.2.2 ≤ s.size) : (trimD s h D).1 ≤ s.size ∧ (trimD s h D).2 ≤ s.size := by
  unfold trimD
  constructor
  · cases hf : (D.filter fun x => !h x.1).head? with
    | none => simp
    | some y => have := hb y (List.mem_filter.1 (List.mem_of_mem_head? hf)).1; simp; omega
  · cases hf : (D.filter fun x => !h x.1).getLast? with
    | none => simp
    | some y => have := hb y (List.mem_filter.1 (List.mem_of_getLast? hf)).1; simp; omega
theorem runesP_lt {s : ByteArray} : ∀ y ∈ runesP s, y.2.1 < s.size ∧ y.2.2 ≤ s.size := fun y hy => by have := runesP_bd y hy; omega

end Go.Proofs.YtlbfbkdcjdeagaaGreatDoor

/-
  strings.Builder: copyCheck, WriteString (the shelf's layings fall at this dump).
-/
namespace Go.Proofs.YtlbfbkdcjdeagaaGreatDoor
open Go.RowKit

theorem bldSize : (Tryz.prog.info? 181).map (·.size) = some 2 := by kernel_rfl
theorem bldLies : liesAt Tryz.prog Tryz.prog.depth 181 (2 / Tryz.prog.cellsOf 181) 0 181 1 = true := by kernel_rfl
theorem infoU8 : (Tryz.prog.info? 5).map (fun i => (i.zero, i.size, i.bytes)) = some (some (.int .u8 0), 1, 1) := by kernel_rfl

set_option maxRecDepth 100000 in
set_option maxHeartbeats 1000000 in
theorem copyCheck_fresh (b : Nat) (w : World) (h0 : w.cell? ⟨b, 0, none⟩ = some (.pointer none)) (hsh : w.shape? b = some (181, 2)) (hfz : w.frozen? ⟨b, 0, none⟩ = false) :
    Calls Tryz.prog 209 #[.pointer (some ⟨b, 0, none⟩)] w fun e w' => e = .returned (.tuple #[]) ∧ w.setCell ⟨b, 0, none⟩ (.pointer (some ⟨b, 0, none⟩)) = w' := by
  obtain ⟨j, hj, hjs⟩ := Option.map_eq_some_iff.1 bldSize
  go_enter Tryz.func209, Tryz.ntmps209
  go_wp2
  rw [Lib.run_to_unsafe w ⟨b, 0, none⟩ Tryz.underlying179 Tryz.underlying217 hj (by rw [hjs]; decide) hsh (Nat.zero_lt_succ 1)]
  simp only [Result.andThen]
  rw [Oper.upon_value]
  go_wp2
  rw [run_callFunc_extern Tryz.func231 (by kernel_rfl) (by kernel_rfl) (by kernel_rfl) (e := Extern.AbiNoEscape.same) (by kernel_rfl)]
  rw [Lib.run_noEscape]
  simp only [Result.andThen]
  rw [Oper.upon_value]
  go_wp2
  rw [Lib.run_from_unsafe w ⟨b, 0, none⟩ Tryz.underlying217 Tryz.underlying179 hj hsh bldLies]
  simp only [Result.andThen]
  rw [Oper.upon_value]
  go_wp2
  go_end0
  exact ⟨rfl, rfl⟩
set_option maxRecDepth 100000 in
set_option maxHeartbeats 1000000 in
theorem copyCheck_used (b : Nat) (w : World) (h0 : w.cell? ⟨b, 0, none⟩ = some (.pointer (some ⟨b, 0, none⟩))) :
    Calls Tryz.prog 209 #[.pointer (some ⟨b, 0, none⟩)] w fun e w' => e = .returned (.tuple #[]) ∧ w = w' := by
  obtain ⟨j, hj, _⟩ := Option.map_eq_some_iff.1 bldSize
  go_enter Tryz.func209, Tryz.ntmps209
  go_wp2
  rw [Lib.run_neq_ptr_same w _ Tryz.underlying179 hj]
  go_wp2
  go_end0
  exact ⟨rfl, rfl⟩
/-- A builder at block b that holds the bytes l; its row lies at B or beyond. -/
def Bld (w : World) (b B : Nat) (l : List UInt8) : Prop :=
  ∃ p v, (p = .pointer none ∨ p = .pointer (some ⟨b, 0, none⟩)) ∧ w.heap[b]? = some (.cells #[p, v] 181 (0, 0)) ∧ w.ownsRowF B 5 1 v l.length (Lib.byteCells l)
theorem Bld.new (w : World) (B : Nat) : Bld (w.alloc (.cells #[.pointer none, .slice none 0 0] 181)) w.heap.size B [] :=
  ⟨_, _, .inl rfl, heap_alloc_new w _, World.ownsRowF_nil _ _ _ _⟩
theorem Bld.lt {w : World} {b B : Nat} {l : List UInt8} (h : Bld w b B l) : b < w.heap.size := by
  obtain ⟨p, v, _, hb, _⟩ := h; exact (Array.getElem?_eq_some_iff.1 hb).1
theorem Bld.row_ne {w : World} {b B : Nat} {n : Nat} {xs : List Value} {cs : Array Value} {v : Value} (hown : w.ownsRowF B 5 1 v n xs) (hb : w.heap[b]? = some (.cells cs 181 (0, 0))) : v.ownBlock ≠ some b := Lib.ownBlock_neF hown hb (by decide)
theorem Bld.keep {w w' : World} {b B : Nat} {l : List UInt8} (h : Bld w b B l) (hs : ∀ (k : Nat) (o : Obj), w.heap[k]? = some o → o.isCells = true → k = b ∨ B ≤ k → w'.heap[k]? = some o) : Bld w' b B l := by
  obtain ⟨p, v, hp, hb, hown⟩ := h
  refine ⟨p, v, hp, hs b _ hb rfl (.inl rfl), hown.1, ?_⟩
  rcases hown.2 with h0 | ⟨g, cap, cur, fz, hv, hg, hh, r⟩
  · exact .inl h0
  · exact .inr ⟨g, cap, cur, fz, hv, hg, hs g _ hh rfl (.inr hg), r⟩
theorem Bld.below {w w' : World} {b B : Nat} {l : List UInt8} (h : Bld w b B l) (hb : Below w.heap.size w w') : Bld w' b B l := h.keep fun k _ hk _ _ => (hb.block k (Array.getElem?_eq_some_iff.1 hk).1).trans hk
theorem Bld.kept {w w' : World} {row : Option Nat} {b B : Nat} {l : List UInt8} (h : Bld w b B l) (hg : w.grownBy w' row) (hr : ∀ r, row = some r → ∃ o : Obj, w.heap[r]? = some o ∧ o.isCells = false) : Bld w' b B l :=
  h.keep fun k o hk hc _ => (hg.block k (Array.getElem?_eq_some_iff.1 hk).1 (by
    rintro rfl
    obtain ⟨o', h1, h2⟩ := hr k rfl
    rw [hk] at h1; cases h1; rw [hc] at h2; cases h2)).trans hk
theorem Bld.more {w : World} {b B B' : Nat} {l : List UInt8} (h : Bld w b B l) (hB : B' ≤ B) : Bld w b B' l := by
  obtain ⟨p, v, hp, hb, hown⟩ := h
  refine ⟨p, v, hp, hb, hown.1, ?_⟩
  rcases hown.2 with h0 | ⟨g, cap, cur, fz, hv, hg, r⟩
  · exact .inl h0
  · exact .inr ⟨g, cap, cur, fz, hv, by omega, r⟩
theorem Bld.is {w : World} {b B : Nat} {l : List UInt8} (h : Bld w b B l) (hB : b ≤ B) : Lib.IsBuilderF 181 5 b b (Lib.byteCells l) w := by
  obtain ⟨p, v, hp, hb, hown⟩ := h.more hB
  have hl : (Lib.byteCells l).length = l.length := Lib.byteCells_length l
  rcases hp with rfl | rfl
  · exact .inl ⟨Nat.le_refl _, v, hb, by rw [hl]; exact hown, Bld.row_ne hown hb⟩
  · exact .inr ⟨Nat.le_refl _, v, hb, by rw [hl]; exact hown, Bld.row_ne hown hb⟩
theorem bString_any (b B : Nat) (l : List UInt8) (w : World) (h : Bld w b B l) (hB : b ≤ B) :
    Calls Tryz.prog 188 #[.pointer (some ⟨b, 0, none⟩)] w fun e w' => e = .returned (.string ⟨l.toArray⟩) ∧ Below b w w' ∧ Lib.OthersKept 5 (some b) w w' :=
  (Tryz.Builder_String_any_k b b l w (h.is hB) (Nat.le_of_lt h.lt)).mono fun _ _ ⟨h1, _, h2, h3⟩ => ⟨h1, h2, h3⟩

set_option maxRecDepth 100000 in
set_option maxHeartbeats 1000000 in
theorem lWriteString_any (b B : Nat) (l : List UInt8) (s : ByteArray) (w : World) (h : Bld w b B l) (hbB : b < B) (hlen : l.length + s.size ≤ 140737488355328) (hBw : B ≤ w.heap.size) :
    Calls Tryz.prog 187 #[.pointer (some ⟨b, 0, none⟩), .string s] w fun e w' => e = .returned (.tuple #[.int .i64 s.size, .nilIface]) ∧ Bld w' b B (l ++ s.data.toList) ∧ Below b w w' ∧ (∀ k, k ≠ b → k < B → w'.heap[k]? = w.heap[k]?) ∧ KeepsOthers w w' := by
  obtain ⟨i0, hi, hz0, hz1, hz2⟩ := info_parts infoU8
  obtain ⟨p, v, hp, hbk, hown⟩ := h
  have hcells : ∀ o, w.heap[b]? = some o → o.isCells = true := fun o ho => by rw [hbk] at ho; cases ho; rfl
  have Hcells := Lib.hid hcells
  clear hcells
  have Hchk : Hid (Calls Tryz.prog 209 #[.pointer (some ⟨b, 0, none⟩)] w fun e w' => e = .returned (.tuple #[]) ∧ w'.heap[b]? = some (.cells #[.pointer (some ⟨b, 0, none⟩), v] 181 (0, 0)) ∧ w'.ownsRowF B 5 1 v l.length (Lib.byteCells l) ∧ w.grownBy w' (some b)) := by
    rcases hp with rfl | rfl
    · refine Lib.hid ((copyCheck_fresh b w (by rw [Lib.cell_of_heap hbk]; rfl) (by simp [World.shape?, hbk]) (Lib.frozen_of_heap hbk 0)).mono ?_)
      rintro e w' ⟨rfl, rfl⟩
      have hg : w.grownBy (w.setCell ⟨b, 0, none⟩ (.pointer (some ⟨b, 0, none⟩))) (some b) :=
        ⟨rfl, rfl, rfl, by simp [World.setCell], fun k _ hk => Below.heap_setCell w ⟨b, 0, none⟩ _ k (fun e => hk (by rw [e]))⟩
      refine ⟨rfl, ?_, hown.kept hg ?_, hg⟩
      · simp [World.setCell, Array.getElem?_modify, hbk]
      · exact .inr (Bld.row_ne hown hbk)
    · refine Lib.hid ((copyCheck_used b w (by rw [Lib.cell_of_heap hbk]; rfl)).mono ?_)
      rintro e w' ⟨rfl, rfl⟩
      exact ⟨rfl, hbk, hown, World.grownBy.refl _ _⟩
  clear hp hown hbk
  go_enter Tryz.func187, Tryz.ntmps187
  go_wp2_with fail
  refine Hchk.out.mono ?_
  clear Hchk
  rintro e w1 ⟨rfl, hbk, hown, hg1⟩
  have c0 : w1.cell? ⟨b, 0, none⟩ = some (.pointer (some ⟨b, 0, none⟩)) := by rw [Lib.cell_of_heap hbk]; rfl
  have c1 : w1.cell? ⟨b, 1, none⟩ = some v := by rw [Lib.cell_of_heap hbk]; rfl
  have hs1 := hg1.size
  go_wp2_with (at_builtin; refine Lib.wpList_append_own_stringF _ rfl _ _ 96 9 rfl B 5 i0 Tryz.underlying96 Tryz.underlying9 hi hz0 hz1 hz2 _ _ _ rfl hown s rfl ?c3 ?c4 ?c5 ?_)
  case c3 => unfold maxLen; omega
  case c4 => omega
  case c5 => omega
  intro v' w2 hown' hgrow _
  have hlt : b < w1.heap.size := (Array.getElem?_eq_some_iff.1 hbk).1
  have hne := Bld.row_ne hown hbk
  have hb2 : w2.heap[b]? = some (.cells #[.pointer (some ⟨b, 0, none⟩), v] 181 (0, 0)) := by
    rw [hgrow.block b hlt (fun e => hne e.symm)]
    exact hbk
  have d0 : w2.cell? ⟨b, 0, none⟩ = some (.pointer (some ⟨b, 0, none⟩)) := by rw [Lib.cell_of_heap hb2]; rfl
  have d1 : w2.cell? ⟨b, 1, none⟩ = some v := by rw [Lib.cell_of_heap hb2]; rfl
  have f1 : w2.frozen? ⟨b, 1, none⟩ = false := Lib.frozen_of_heap hb2 1
  obtain ⟨ao, n', cap, rfl⟩ : ∃ ao n' cap, v' = .slice ao n' cap := by
    rcases hown'.2 with ⟨hv, _⟩ | ⟨g, cap, cur, fz, hv, _⟩
    · exact ⟨_, _, _, hv⟩
    · exact ⟨_, _, _, hv⟩
  have hs2 := hgrow.size
  go_wp2
  go_ret2
  have hblk : ∀ k, k ≠ b → k < B → (w2.setCell ⟨b, 1, none⟩ (.slice ao n' cap)).heap[k]? = w.heap[k]? := fun k hk hkB => by
    rw [Below.heap_setCell w2 ⟨b, 1, none⟩ _ k hk, hgrow.block k (by omega) (fun e => by have := (hown.lt k e.symm).1; omega), hg1.block k (by omega) (fun e => by injection e; omega)]
  refine ⟨rfl, ⟨_, .slice ao n' cap, .inr rfl, ?_, ?_⟩, ⟨?_, ?_, ?_, ?_, fun k hk => hblk k (by omega) (by omega)⟩, hblk, ?_⟩
  · simp [World.setCell, Array.getElem?_modify, hb2]
  · have hne' := Bld.row_ne hown' hb2
    have hg3 : w2.grownBy (w2.setCell ⟨b, 1, none⟩ (.slice ao n' cap)) (some b) :=
      ⟨rfl, rfl, rfl, by simp [World.setCell], fun k _ hk => Below.heap_setCell w2 ⟨b, 1, none⟩ _ k (fun e => hk (by rw [e]))⟩
    have h := hown'.kept hg3 (.inr hne')
    have e1 : Lib.byteCells (l ++ s.data.toList) = Lib.byteCells l ++ Lib.strCells s := by simp [Lib.byteCells, Lib.strCells]
    rw [e1, List.length_append, Array.length_toList]
    exact h
  · exact hgrow.os.trans hg1.os
  · exact hgrow.tape.trans hg1.tape
  · exact hgrow.output.trans hg1.output
  · simp [World.setCell]; omega
  · refine ⟨by simp [World.setCell]; omega, fun k o hk ho => ?_⟩
    have hkb : k ≠ b := fun e => by
      subst e
      have := Hcells.out o hk
      rw [ho] at this; cases this
    rw [Below.heap_setCell w2 ⟨b, 1, none⟩ _ k hkb, hgrow.block k (by have := (Array.getElem?_eq_some_iff.1 hk).1; omega) ?_, hg1.block k (Array.getElem?_eq_some_iff.1 hk).1 (fun e => by injection e; omega)]
    · exact hk
    · intro e
      obtain ⟨c, fz, hc⟩ := Lib.ownsRowF_kind hown k e.symm
      rw [hg1.block k (Array.getElem?_eq_some_iff.1 hk).1 (fun e => by injection e; omega), hk] at hc
      cases hc; cases ho
end Go.Proofs.YtlbfbkdcjdeagaaGreatDoor

/-
  kerfref02.Runs, Keep.
-/
namespace Go.Proofs.YtlbfbkdcjdeagaaGreatDoor
open Go.RowKit

def encI2 (l : List (Nat × Nat)) : List (List Value) := l.flatMap fun y => [[.int .i64 y.1], [.int .i64 y.2]]
theorem encI2_append (a b : List (Nat × Nat)) : encI2 (a ++ b) = encI2 a ++ encI2 b := by unfold encI2; exact List.flatMap_append
theorem encI2_len (l : List (Nat × Nat)) : (encI2 l).length = l.length * 2 := by
  induction l with
  | nil => rfl
  | cons x r ih => unfold encI2 at ih ⊢; rw [List.flatMap_cons, List.length_append, ih]; simp; omega
theorem encI2_ok (l : List (Nat × Nat)) : ∀ y ∈ encI2 l, y.length = 1 ∧ ∀ u ∈ y, u.oneCell' = true := by
  intro y hy
  obtain ⟨x, _, hx⟩ := List.mem_flatMap.1 hy
  rcases List.mem_cons.1 hx with rfl | hx
  · exact ⟨rfl, by simp [Value.oneCell']⟩
  · rcases List.mem_cons.1 hx with rfl | hx
    · exact ⟨rfl, by simp [Value.oneCell']⟩
    · cases hx
theorem Rd.twoAt {w : World} {t : TypeId} {b : Nat} {x y : Value} {xs : Array Value} (hb : b = w.heap.size) (hx : xs = #[x, y]) : Rd (w.alloc (.cells xs t)) 1 (some ⟨b, 0, none⟩) [[x], [y]] := by
  subst hb; subst hx
  intro _
  have h : ∀ i, (w.alloc (.cells #[x, y] t)).cell? ⟨w.heap.size, i, none⟩ = #[x, y][i]? := fun i => by
    unfold World.cell?
    rw [show (w.alloc (.cells #[x, y] t)).heap[w.heap.size]? = some (.cells #[x, y] t (0, 0)) from heap_alloc_new w _]
    rfl
  refine ⟨w.heap.size, 0, rfl, fun k j z u hy hu => ?_⟩
  match k, hy with
  | 0, hy =>
    obtain rfl : [x] = z := by simpa using hy
    match j, hu with
    | 0, hu => simp at hu; subst hu; exact h 0
  | 1, hy =>
    obtain rfl : [y] = z := by simpa using hy
    match j, hu with
    | 0, hu => simp at hu; subst hu; exact h 1
/-- The runs as they are gathered: the one under way ends where the text has been read to. -/
def outOf (pre : List (Nat × Nat)) : Option Nat → Nat → List (Nat × Nat)
  | none, _ => pre
  | some a, p => pre ++ [(a, p)]
/-- Whether the rune before place i of the list is in the set. -/
def LastIn (L : List (Nat × Nat × Nat)) (h : Int → Bool) (i : Nat) (cur : Option Nat) : Prop :=
  (cur = none ∧ (i = 0 ∨ ∃ j x, i = j + 1 ∧ L[j]? = some x ∧ h x.1 = false)) ∨ ∃ a j x, cur = some a ∧ i = j + 1 ∧ L[j]? = some x ∧ h x.1 = true
structure RAt (s : ByteArray) (set : List (Int × Int)) (i : Nat) (out : List (Nat × Nat)) (cur : Option Nat) (pre : List (Nat × Nat)) (f p : Nat) : Prop where
  at_ : RunsAt s set f p cur pre
  rest : (runesP s).drop i = runesGo s f p
  last : LastIn (runesP s) (hasB set) i cur
  outEq : out = outOf pre cur p
  small : out.length ≤ i
theorem gcell {w w' : World} {row : Option Nat} (h : w.grownBy w' row) {b i : Nat} {v : Value} (hv : w.cell? ⟨b, i, none⟩ = some v) (hr : some b ≠ row) : w'.cell? ⟨b, i, none⟩ = some v :=
  (World.cell?_of_block (h.block b (cell_lt hv) hr)).trans hv
theorem cell_alloc {w : World} {b i : Nat} {v : Value} (hv : w.cell? ⟨b, i, none⟩ = some v) (o : Obj) : (w.alloc o).cell? ⟨b, i, none⟩ = some v := cell_keep hv ((Below.refl _ _).alloc (Nat.le_refl _) o)
theorem drop_cons_get {α : Type} {L : List α} {i : Nat} {x : α} {r : List α} (h : L.drop i = x :: r) : L[i]? = some x ∧ L.drop (i + 1) = r := by
  constructor
  · have := congrArg (·[0]?) h; simpa using this
  · have := congrArg List.tail h; simpa using this
/-- One rune more, not in the set. -/
theorem rAt_out {s : ByteArray} {set : List (Int × Int)} {i : Nat} {out : List (Nat × Nat)} {cur : Option Nat} {pre : List (Nat × Nat)} {f p R W : Nat} (h : RAt s set i out cur pre f p) (hp : p < s.size)
    (hd : Utf8.decode s p = (R, W)) (hw : 1 ≤ W ∧ p + W ≤ s.size) (hh : hasB set R = false) : ∃ cur' pre' f' p', RAt s set (i + 1) out cur' pre' f' p' := by
  obtain ⟨g, rfl, hg⟩ := runesGo_step (s := s) (f := f) hp h.at_.2.1
  rw [hd] at hg
  have hx := drop_cons_get (h.rest.trans hg)
  have hrun := runsAt_go h.at_ hp hd
  obtain ⟨g', hg1, hg2⟩ := hrun
  obtain rfl : g = g' := by omega
  have hl : LastIn (runesP s) (hasB set) (i + 1) none := .inl ⟨rfl, .inr ⟨i, _, rfl, hx.1, hh⟩⟩
  have hsm := h.small
  cases cur with
  | none =>
    rw [runsGo, if_neg (by simp only; rw [hh]; exact Bool.false_ne_true)] at hg2
    exact ⟨none, pre, g, p + W, ⟨hg2, by have := h.at_.2.1; omega, hw.2, fun a ha => by cases ha⟩, hx.2, hl, h.outEq, by omega⟩
  | some a =>
    rw [runsGo, if_neg (by simp only; rw [hh]; exact Bool.false_ne_true)] at hg2
    exact ⟨none, pre ++ [(a, p)], g, p + W, ⟨by rw [← hg2]; simp, by have := h.at_.2.1; omega, hw.2, fun a ha => by cases ha⟩, hx.2, hl, h.outEq, by omega⟩
/-- One rune more, in the set, none before it. -/
theorem rAt_new {s : ByteArray} {set : List (Int × Int)} {i : Nat} {out : List (Nat × Nat)} {pre : List (Nat × Nat)} {f p R W : Nat} (h : RAt s set i out none pre f p) (hp : p < s.size)
    (hd : Utf8.decode s p = (R, W)) (hw : 1 ≤ W ∧ p + W ≤ s.size) (hh : hasB set R = true) : ∃ f', RAt s set (i + 1) (out ++ [(p, p + W)]) (some p) pre f' (p + W) := by
  obtain ⟨g, rfl, hg⟩ := runesGo_step (s := s) (f := f) hp h.at_.2.1
  rw [hd] at hg
  have hx := drop_cons_get (h.rest.trans hg)
  obtain ⟨g', hg1, hg2⟩ := runsAt_go h.at_ hp hd
  obtain rfl : g = g' := by omega
  rw [runsGo, if_pos hh] at hg2
  have ho := h.outEq
  have hsm := h.small
  exact ⟨g, ⟨hg2, by have := h.at_.2.1; omega, hw.2, fun a ha => by cases ha; omega⟩, hx.2, .inr ⟨p, i, _, rfl, rfl, hx.1, hh⟩, by rw [ho]; rfl, by simp; omega⟩
/-- One rune more, in the set, one before it. -/
theorem rAt_on {s : ByteArray} {set : List (Int × Int)} {i : Nat} {out : List (Nat × Nat)} {pre : List (Nat × Nat)} {a f p R W : Nat} (h : RAt s set i out (some a) pre f p) (hp : p < s.size)
    (hd : Utf8.decode s p = (R, W)) (hw : 1 ≤ W ∧ p + W ≤ s.size) (hh : hasB set R = true) : ∃ f', RAt s set (i + 1) (pre ++ [(a, p + W)]) (some a) pre f' (p + W) := by
  obtain ⟨g, rfl, hg⟩ := runesGo_step (s := s) (f := f) hp h.at_.2.1
  rw [hd] at hg
  have hx := drop_cons_get (h.rest.trans hg)
  obtain ⟨g', hg1, hg2⟩ := runsAt_go h.at_ hp hd
  obtain rfl : g = g' := by omega
  rw [runsGo, if_pos hh] at hg2
  have ho := h.outEq
  have hsm := h.small
  rw [ho] at hsm
  exact ⟨g, ⟨hg2, by have := h.at_.2.1; omega, hw.2, fun b hb => by have := h.at_.2.2.2 b hb; omega⟩, hx.2, .inr ⟨a, i, _, rfl, rfl, hx.1, hh⟩, rfl, by simp [outOf] at hsm ⊢; omega⟩
theorem rAt_end {s : ByteArray} {set : List (Int × Int)} {i : Nat} {out : List (Nat × Nat)} {cur : Option Nat} {pre : List (Nat × Nat)} {f p : Nat} (h : RAt s set i out cur pre f p) (hp : ¬ p < s.size) : out = runsP s set := by
  cases cur with
  | none => rw [h.outEq]; exact runsAt_end h.at_ hp
  | some a => rw [h.outEq, show p = s.size by have := h.at_.2.2.1; omega]; exact runsAt_last h.at_ hp
/-- The list's next rune. -/
theorem rAt_get {s : ByteArray} {set : List (Int × Int)} {i : Nat} {out : List (Nat × Nat)} {cur : Option Nat} {pre : List (Nat × Nat)} {f p : Nat} (h : RAt s set i out cur pre f p) :
    (i < (runesP s).length → p < s.size ∧ (runesP s)[i]? = some ((Utf8.decode s p).1, p, p + (Utf8.decode s p).2)) ∧ (¬ i < (runesP s).length → ¬ p < s.size) := by
  constructor
  · intro hi
    by_cases hp : p < s.size
    · obtain ⟨g, rfl, hg⟩ := runesGo_step (s := s) (f := f) hp h.at_.2.1
      exact ⟨hp, (drop_cons_get (h.rest.trans hg)).1⟩
    · have := h.rest
      rw [runesGo_end (by omega), List.drop_eq_nil_iff] at this
      omega
  · intro hi hp
    obtain ⟨g, rfl, hg⟩ := runesGo_step (s := s) (f := f) hp h.at_.2.1
    have := h.rest
    rw [hg, List.drop_of_length_le (by omega)] at this
    cases this
theorem rAt_first (s : ByteArray) (set : List (Int × Int)) : RAt s set 0 [] none [] s.size 0 :=
  ⟨⟨rfl, by omega, by omega, fun a h => by cases h⟩, rfl, .inl ⟨rfl, .inl rfl⟩, rfl, by simp⟩

theorem own_convert {w : World} {B : Nat} {v : Value} {l : List UInt8} (h : w.ownsRow B 5 1 v l.length (Lib.byteCells l)) : (convert 96 9 v).run Tryz.prog w = .ok (.string ⟨l.toArray⟩) w := by
  rcases h.2 with ⟨rfl, h0⟩ | ⟨g, cap, cur, rfl, _, hg, _, _, _, ht⟩
  · have : l = [] := List.length_eq_zero_iff.1 h0
    subst this
    exact Lib.run_convert_nil_bytes w 96 9 5 0 Tryz.underlying96 Tryz.underlying5 Tryz.underlying9
  · exact run_convert_bytes_back w 96 9 5 ⟨g, 0, none⟩ cap l Tryz.underlying96 Tryz.underlying5 Tryz.underlying9 (Lib.bytes_of_row hg (by simpa using ht))
theorem step_appS {P : Program} {ops : Array Oper} {o : Oper} {a : Act} {w : World} {K : Act → World → Prop} {Q : Exit → Act → World → Prop} {E : Prop} (hgd : o.guard = none) (sl x : Operand) (t u : TypeId)
    (ho : o.op = .call { callee := .builtin .append, args := #[sl, x], argTypes := #[t, u] })
    (base : Nat) (e : TypeId) (i : TypeInfo) (ht : P.underlying t = some (.slice e)) (hu : P.underlying u = some .string) (hi : P.info? e = some i) (hz : i.zero = some (.int .u8 0))
    (hsize : i.size = 1) (hby : i.bytes = 1)
    (v : Value) (n : Nat) (xs : List Value) (hs : a.eval sl = v) (hown : w.ownsRow base e 1 v n xs) (s : ByteArray) (hx : a.eval x = .string s)
    (h63 : n + s.size ≤ maxLen) (hbytes : n + s.size ≤ 140737488355328) (hbase : base ≤ w.heap.size)
    (h : ∀ v' w', w'.ownsRow base e 1 v' (n + s.size) (xs ++ Lib.strCells s) → w.grownBy w' v.ownBlock → K (a.put o.dst v') w') :
    if Region.wanted o (yielded ops a.tmps) = true then Oper.wp P o a w K Q else E := by
  have hw : Region.wanted o (yielded ops a.tmps) = true := by simp [Region.wanted, hgd]
  rw [if_pos hw]
  obtain ⟨v', w', hr, h2, h3, _⟩ := Lib.run_append_own_string (P := P) w base t u o.type e i ht hu hi hz hsize hby v n xs hown s h63 hbytes hbase
  unfold Oper.wp execOp
  simp only [ho, resolve, invoke, builtin, Sem.run_bind, Sem.run_pure, Result.andThen_ok, List.map_toArray, List.map_cons, List.map_nil, hs, hx, hr]
  exact h v' w' h2 h3
theorem row_ge {w : World} {B : Nat} {e : TypeId} {v : Value} {n : Nat} {xs : List Value} (h : w.ownsRow B e 1 v n xs) : ∀ r, v.ownBlock = some r → B ≤ r := by
  intro r hr
  rcases h.2 with ⟨rfl, _⟩ | ⟨g, cap, cur, rfl, hB, _⟩
  · cases hr
  · simp [Value.ownBlock] at hr; omega
theorem below_row {B : Nat} {a w w' : World} {row : Option Nat} (hb : Below B a w) (hg : w.grownBy w' row) (hr : ∀ r, row = some r → B ≤ r) (hB : B ≤ w.heap.size) : Below B a w' :=
  ⟨hg.os.trans hb.os, hg.tape.trans hb.tape, hg.output.trans hb.output, Nat.le_trans hb.size hg.size, fun i hi => (hg.block i (by omega) (fun e => by have := hr i e.symm; omega)).trans (hb.block i hi)⟩
def keepGo (s : ByteArray) (h : Int → Bool) (L : List (Nat × Nat × Nat)) : List UInt8 := (L.filter fun x => h x.1).flatMap fun x => (s.extract x.2.1 x.2.2).data.toList
theorem keepGo_snoc {s : ByteArray} {h : Int → Bool} {L : List (Nat × Nat × Nat)} {k : Nat} {x : Nat × Nat × Nat} (hx : L[k]? = some x) :
    keepGo s h (L.take (k + 1)) = if h x.1 then keepGo s h (L.take k) ++ (s.extract x.2.1 x.2.2).data.toList else keepGo s h (L.take k) := by
  unfold keepGo
  rw [List.take_add_one, hx, Option.toList_some, List.filter_append, List.flatMap_append]
  cases hh : h x.1 <;> simp [hh]
theorem keepGo_len {s : ByteArray} {h : Int → Bool} : ∀ (L : List (Nat × Nat × Nat)), (∀ x ∈ L, x.2.2 ≤ x.2.1 + 4) → (keepGo s h L).length ≤ 4 * L.length
  | [], _ => by simp [keepGo]
  | x :: r, hb => by
    have ih := keepGo_len r (s := s) (h := h) (fun y hy => hb y (by simp [hy]))
    have h4 := hb x (by simp)
    unfold keepGo at ih ⊢
    rw [List.filter_cons]
    split
    · rw [List.flatMap_cons, List.length_append]
      have : (s.extract x.2.1 x.2.2).data.toList.length ≤ 4 := by
        have e : (s.extract x.2.1 x.2.2).data.toList.length = (s.extract x.2.1 x.2.2).size := by rw [Array.length_toList]; rfl
        rw [e, ByteArray.size_extract]; omega
      simp only [List.length_cons]; omega
    · simp only [List.length_cons]; omega

end Go.Proofs.YtlbfbkdcjdeagaaGreatDoor

/-
  PLAIN: lines: where a line may end by the classes of its runes; places that are never chances. No walk.
-/
namespace Go.Proofs.YtlbfbkdcjdeagaaGreatDoor

/-- How many runes stand ahead when those of a class at the end are passed over. -/
def lPast (c : List Int) (k : Int) : Nat → Nat
  | 0 => 0
  | n + 1 => if c.getD n 0 = k then lPast c k n else n + 1
def lLast (c : List Int) (n : Nat) : Int := if n = 0 then -1 else c.getD (n - 1) 0
def lRegGo (c : List Int) : Nat → Nat → Nat
  | 0, _ => 0
  | f + 1, n => if lLast c n = 25 then lRegGo c f (lPast c 8 (n - 1)) + 1 else 0
def lReg (c : List Int) (n : Nat) : Nat := lRegGo c (n + 1) (lPast c 8 n)
def lNum (c : List Int) (n : Nat) : Bool :=
  let n1 := lPast c 8 n
  let n2 := if [11, 10].contains (lLast c n1) then lPast c 8 (n1 - 1) else n1
  let n3 := if [14, 15].contains (lLast c n2) then lPast c 8 (n2 - 1) else n2
  lLast c n3 == 20
def lPairs (b q : Int) : Bool :=
  (b == 0 && [20, 22, 21, 0, 9].contains q || b == 20 && [0, 9, 20].contains q || b == 22 && [23, 0].contains q) ||
  (b == 23 && q == 21 || b == 21 && q == 0 || [16, 14, 15].contains b && q == 20 || b == 14 && q == 0) ||
  (b == 10 && [0, 20].contains q)
def lLetters (c : List Int) (i : Nat) (b q : Int) : Bool :=
  ([12, 17, 16, 24, 19].contains q || b == 12 || lPairs b q) || ([21, 22].contains q && lNum c i) ||
  ([21, 22].contains b && (q == 20 || [9, 16].contains q && decide (i + 1 < c.length) && c.getD (i + 1) 0 == 20)) ||
  (q == 25 && lReg c i % 2 == 1)
def lGlued (p b q : Int) : Bool :=
  (q == 8 && !([1, 2, 3, 4, 5].contains p) || q == 6 || b == 6 || b == 7) || (q == 7 && !([4, 17, 16].contains b) || [11, 10, 13, 14, 15].contains q)
def lOver (c : List Int) (i : Nat) (q : Int) : Bool :=
  let a := lLast c (lPast c 8 (lPast c 4 i))
  a == 9 || a == 12 && q == 9 || [11, 10].contains a && q == 24 || a == 18 && q == 18
def lMust (c : Int) : Bool := [1, 2, 3].contains c
/-- May a line end ahead of a rune that is not the first? -/
def lCut (c : List Int) (i : Nat) : Bool :=
  let p := c.getD (i - 1) 0
  let q := c.getD i 0
  let b := lLast c (lPast c 8 i)
  if p = 2 ∧ q = 3 then false
  else if lMust p then true
  else if [1, 2, 3, 4, 5].contains q then false
  else if lLast c (lPast c 4 i) = 5 then true
  else if lGlued p b q || lOver c i q then false
  else if p = 4 then true
  else !lLetters c i b q
theorem lMust_iff (c : Int) : lMust c = true ↔ c = 1 ∨ c = 2 ∨ c = 3 := by simp [lMust]
theorem lPast_le (c : List Int) (k : Int) : ∀ n, lPast c k n ≤ n
  | 0 => Nat.le_refl _
  | n + 1 => by
    have := lPast_le c k n
    unfold lPast; split <;> omega
theorem lPast_here {c : List Int} {k : Int} {i : Nat} (h : c.getD i 0 ≠ k) : lPast c k (i + 1) = i + 1 := by unfold lPast; rw [if_neg h]
theorem lPast_on {c : List Int} {k : Int} {i : Nat} (h : c.getD i 0 = k) : lPast c k (i + 1) = lPast c k i := by
  conv => lhs; unfold lPast
  rw [if_pos h]
theorem lLast_succ (c : List Int) (i : Nat) : lLast c (i + 1) = c.getD i 0 := by unfold lLast; rw [if_neg (by omega), Nat.add_sub_cancel]
/-- Where a line must end. -/
theorem lCut_end {c : List Int} {i : Nat} (h : lMust (c.getD i 0) = true) : lCut c (i + 1) = !decide (c.getD i 0 = 2 ∧ c.getD (i + 1) 0 = 3) := by
  unfold lCut
  dsimp only
  rw [show i + 1 - 1 = i from rfl]
  by_cases h23 : c.getD i 0 = 2 ∧ c.getD (i + 1) 0 = 3
  · rw [if_pos h23, decide_eq_true h23]; rfl
  · rw [if_neg h23, decide_eq_false h23, if_pos h]; rfl
theorem lCut_blank {c : List Int} {i : Nat} (h : lMust (c.getD i 0) = false) (hq : [1, 2, 3, 4, 5].contains (c.getD (i + 1) 0) = true) : lCut c (i + 1) = false := by
  unfold lCut
  dsimp only
  rw [show i + 1 - 1 = i from rfl, h, hq]
  split <;> simp
/-- Whether a break stands ahead of the blanks. -/
def lZw (c : List Int) (n : Nat) : Bool := lLast c (lPast c 4 n) == 5
theorem lZw_step (c : List Int) (i : Nat) : lZw c (i + 1) = if c.getD i 0 = 5 then true else if c.getD i 0 ≠ 4 then false else lZw c i := by
  unfold lZw
  by_cases h4 : c.getD i 0 = 4
  · rw [lPast_on h4, if_neg (by omega), if_neg (by omega)]
  · rw [lPast_here h4, lLast_succ]
    by_cases h5 : c.getD i 0 = 5
    · rw [if_pos h5, h5]; rfl
    · rw [if_neg h5, if_pos h4]; exact beq_eq_false_iff_ne.2 h5
theorem lCut_glue {c : List Int} {i : Nat} (h : lMust (c.getD i 0) = false) (hz : lZw c (i + 1) = false) (hg : lGlued (c.getD i 0) (lLast c (lPast c 8 (i + 1))) (c.getD (i + 1) 0) = true) : lCut c (i + 1) = false := by
  unfold lCut
  dsimp only
  rw [show i + 1 - 1 = i from rfl, h, hg]
  have hz' : ¬ lLast c (lPast c 4 (i + 1)) = 5 := fun e => by unfold lZw at hz; rw [e] at hz; cases hz
  rw [if_neg hz']
  simp
theorem lCut_pair {c : List Int} {i : Nat} (h : lMust (c.getD i 0) = false) (hz : lZw c (i + 1) = false) (h4 : c.getD i 0 ≠ 4) (h8 : c.getD i 0 ≠ 8) (hg : lPairs (c.getD i 0) (c.getD (i + 1) 0) = true) : lCut c (i + 1) = false := by
  unfold lCut
  dsimp only
  have hz' : ¬ lLast c (lPast c 4 (i + 1)) = 5 := fun e => by unfold lZw at hz; rw [e] at hz; cases hz
  have hb : lLast c (lPast c 8 (i + 1)) = c.getD i 0 := by rw [lPast_here h8, lLast_succ]
  rw [show i + 1 - 1 = i from rfl, h, if_neg hz', hb, if_neg h4]
  have : lLetters c (i + 1) (c.getD i 0) (c.getD (i + 1) 0) = true := by unfold lLetters; rw [hg]; simp
  rw [this]
  simp
/-- Ahead of what closes. -/
theorem lNever_close {c : List Int} {i : Nat} (h : lMust (c.getD i 0) = false) (hz : lZw c (i + 1) = false) (hq : c.getD (i + 1) 0 = 6 ∨ c.getD (i + 1) 0 = 11 ∨ c.getD (i + 1) 0 = 10 ∨ c.getD (i + 1) 0 = 13 ∨ c.getD (i + 1) 0 = 14 ∨ c.getD (i + 1) 0 = 15) : lCut c (i + 1) = false := by
  refine lCut_glue h hz ?_
  unfold lGlued
  rcases hq with hq | hq | hq | hq | hq | hq <;> (rw [hq]; simp)
/-- Behind what glues. -/
theorem lNever_glue {c : List Int} {i : Nat} (hp : c.getD i 0 = 7 ∨ c.getD i 0 = 6) : lCut c (i + 1) = false := by
  have h : lMust (c.getD i 0) = false := by rcases hp with hp | hp <;> rw [hp] <;> rfl
  have hz : lZw c (i + 1) = false := by rw [lZw_step, if_neg (by omega), if_pos (by omega)]
  refine lCut_glue h hz ?_
  rw [lPast_here (by omega), lLast_succ]
  unfold lGlued
  rcases hp with hp | hp <;> (rw [hp]; simp)
/-- Between letters, between letters and digits. -/
theorem lNever_letters {c : List Int} {i : Nat} (h : c.getD i 0 = 0 ∧ (c.getD (i + 1) 0 = 0 ∨ c.getD (i + 1) 0 = 20 ∨ c.getD (i + 1) 0 = 7 ∨ c.getD (i + 1) 0 = 6) ∨ c.getD i 0 = 20 ∧ (c.getD (i + 1) 0 = 0 ∨ c.getD (i + 1) 0 = 20)) : lCut c (i + 1) = false := by
  have hm : lMust (c.getD i 0) = false := by rcases h with ⟨h, _⟩ | ⟨h, _⟩ <;> rw [h] <;> rfl
  have hz : lZw c (i + 1) = false := by rw [lZw_step, if_neg (by omega), if_pos (by omega)]
  by_cases hg : c.getD (i + 1) 0 = 7 ∨ c.getD (i + 1) 0 = 6
  · refine lCut_glue hm hz ?_
    rw [lPast_here (by omega), lLast_succ]
    unfold lGlued
    have h0 : c.getD i 0 = 0 := by omega
    rcases hg with hg | hg <;> (rw [hg, h0]; simp)
  · refine lCut_pair hm hz (by omega) (by omega) ?_
    unfold lPairs
    rcases h with ⟨h1, h2 | h2 | h2 | h2⟩ | ⟨h1, h2 | h2⟩
    · rw [h1, h2]; rfl
    · rw [h1, h2]; rfl
    · omega
    · omega
    · rw [h1, h2]; rfl
    · rw [h1, h2]; rfl
end Go.Proofs.YtlbfbkdcjdeagaaGreatDoor

/-
  PLAIN: lines: behind a line's end a text begins anew; behind blanks. No walk.
-/
namespace Go.Proofs.YtlbfbkdcjdeagaaGreatDoor

/- What is known of a place hangs on what stands ahead of it, its own rune, and the next. -/
theorem lPast_congr {c d : List Int} (k : Int) : ∀ (n : Nat), (∀ i, i < n → c.getD i 0 = d.getD i 0) → lPast c k n = lPast d k n
  | 0, _ => rfl
  | n + 1, h => by
    unfold lPast
    rw [h n (by omega), lPast_congr k n (fun i hi => h i (by omega))]
theorem lLast_congr {c d : List Int} {n : Nat} (h : ∀ i, i < n → c.getD i 0 = d.getD i 0) : lLast c n = lLast d n := by
  unfold lLast
  by_cases h0 : n = 0
  · rw [if_pos h0, if_pos h0]
  · rw [if_neg h0, if_neg h0, h (n - 1) (by omega)]
theorem lRegGo_congr {c d : List Int} : ∀ (f n : Nat), (∀ i, i < n → c.getD i 0 = d.getD i 0) → lRegGo c f n = lRegGo d f n
  | 0, _, _ => rfl
  | f + 1, n, h => by
    have hp := lPast_congr 8 (n - 1) (c := c) (d := d) (fun i hi => h i (by omega))
    have hle := lPast_le d 8 (n - 1)
    unfold lRegGo
    rw [lLast_congr h, hp, lRegGo_congr f _ (fun i hi => h i (by omega))]
theorem lNum_congr {c d : List Int} {n : Nat} (h : ∀ i, i < n → c.getD i 0 = d.getD i 0) : lNum c n = lNum d n := by
  unfold lNum
  dsimp only
  have l1 := lPast_le d 8 n
  rw [lPast_congr 8 n h, lLast_congr (n := lPast d 8 n) (fun i hi => h i (by omega)), lPast_congr 8 (lPast d 8 n - 1) (fun i hi => h i (by omega))]
  generalize hn2 : (if [11, 10].contains (lLast d (lPast d 8 n)) = true then lPast d 8 (lPast d 8 n - 1) else lPast d 8 n) = n2
  have l2 : n2 ≤ n := by
    have := lPast_le d 8 (lPast d 8 n - 1)
    rw [← hn2]; split <;> omega
  rw [lLast_congr (n := n2) (fun i hi => h i (by omega)), lPast_congr 8 (n2 - 1) (fun i hi => h i (by omega))]
  generalize hn3 : (if [14, 15].contains (lLast d n2) = true then lPast d 8 (n2 - 1) else n2) = n3
  have l3 : n3 ≤ n := by
    have := lPast_le d 8 (n2 - 1)
    rw [← hn3]; split <;> omega
  rw [lLast_congr (n := n3) (fun i hi => h i (by omega))]
theorem lOver_congr {c d : List Int} {i : Nat} (q : Int) (h : ∀ k, k < i → c.getD k 0 = d.getD k 0) : lOver c i q = lOver d i q := by
  unfold lOver
  have l1 := lPast_le d 4 i
  have l2 := lPast_le d 8 (lPast d 4 i)
  rw [lPast_congr 4 i h, lPast_congr 8 _ (fun k hk => h k (by omega)), lLast_congr (n := lPast d 8 (lPast d 4 i)) (fun k hk => h k (by omega))]
theorem lLetters_congr {c d : List Int} {i : Nat} (b q : Int) (h : ∀ k, k < i + 2 → c.getD k 0 = d.getD k 0) (hl : decide (i + 1 < c.length) = decide (i + 1 < d.length)) : lLetters c i b q = lLetters d i b q := by
  unfold lLetters lReg
  have l1 := lPast_le d 8 i
  rw [lNum_congr (fun k hk => h k (by omega)), hl, h (i + 1) (by omega), lPast_congr 8 i (fun k hk => h k (by omega)), lRegGo_congr _ _ (fun k hk => h k (by omega))]
theorem lCut_congr {c d : List Int} {i : Nat} (h : ∀ k, k < i + 2 → c.getD k 0 = d.getD k 0) (hl : decide (i + 1 < c.length) = decide (i + 1 < d.length)) : lCut c i = lCut d i := by
  unfold lCut
  dsimp only
  have l1 := lPast_le d 8 i
  have l2 := lPast_le d 4 i
  rw [h (i - 1) (by omega), h i (by omega), lPast_congr 8 i (fun k hk => h k (by omega)), lPast_congr 4 i (fun k hk => h k (by omega)), lLast_congr (n := lPast d 8 i) (fun k hk => h k (by omega)), lLast_congr (n := lPast d 4 i) (fun k hk => h k (by omega)), lOver_congr _ (fun k hk => h k (by omega)), lLetters_congr _ _ h hl]

section
variable {A B : List Int} {e : Int}
theorem gl_left {i : Nat} (h : i < A.length) : (A ++ e :: B).getD i 0 = A.getD i 0 := by
  rw [List.getD_eq_getElem?_getD, List.getD_eq_getElem?_getD, List.getElem?_append_left h]
theorem gl_mid : (A ++ e :: B).getD A.length 0 = e := by
  rw [List.getD_eq_getElem?_getD, List.getElem?_append_right (Nat.le_refl _), Nat.sub_self]; rfl
theorem gl_right (j : Nat) : (A ++ e :: B).getD (A.length + 1 + j) 0 = B.getD j 0 := by
  rw [List.getD_eq_getElem?_getD, List.getD_eq_getElem?_getD, List.getElem?_append_right (by omega), show A.length + 1 + j - A.length = j + 1 by omega, List.getElem?_cons_succ]
/-- Ahead of a line's end what stands behind it does not count. -/
theorem lCut_left (he : e = 1 ∨ e = 3) {i : Nat} (h : i ≤ A.length) (h1 : 1 ≤ i) : lCut (A ++ e :: B) i = lCut (A ++ [e]) i := by
  rcases Nat.lt_or_ge i A.length with hlt | hge
  · refine lCut_congr (fun k hk => ?_) ?_
    · rcases Nat.lt_or_ge k A.length with h2 | h2
      · rw [gl_left h2, gl_left h2]
      · obtain rfl : k = A.length := by omega
        rw [gl_mid, gl_mid]
    · rw [List.length_append, List.length_append, List.length_cons, List.length_cons, decide_eq_true (by omega), decide_eq_true (by omega)]
  · obtain rfl : i = A.length := by omega
    obtain ⟨m, hm⟩ : ∃ m, A.length = m + 1 := ⟨A.length - 1, by omega⟩
    have g1 := gl_mid (A := A) (e := e) (B := B); have g2 := gl_mid (A := A) (e := e) (B := [])
    have p1 := gl_left (A := A) (e := e) (B := B) (i := m) (by omega); have p2 := gl_left (A := A) (e := e) (B := []) (i := m) (by omega)
    rw [hm] at g1 g2 ⊢
    have hq : [1, 2, 3, 4, 5].contains e = true := by rcases he with rfl | rfl <;> rfl
    cases hmu : lMust (A.getD m 0) with
    | true => rw [lCut_end (by rw [p1]; exact hmu), lCut_end (by rw [p2]; exact hmu), g1, g2, p1, p2]
    | false => rw [lCut_blank (by rw [p1]; exact hmu) (by rw [g1]; exact hq), lCut_blank (by rw [p2]; exact hmu) (by rw [g2]; exact hq)]
theorem lPast_right (he : e = 1 ∨ e = 3) {k : Int} (hk : k = 8 ∨ k = 4) : ∀ (j : Nat), lPast (A ++ e :: B) k (A.length + 1 + j) = A.length + 1 + lPast B k j
  | 0 => by
    show lPast _ k (A.length + 1) = _
    rw [lPast_here (by rw [gl_mid]; omega)]; rfl
  | j + 1 => by
    show lPast _ k ((A.length + 1 + j) + 1) = _
    rw [lPast, gl_right, lPast_right he hk j, lPast]
    split
    · rfl
    · omega
theorem lLast_right (n : Nat) : lLast (A ++ e :: B) (A.length + 1 + n) = if n = 0 then e else lLast B n := by
  cases n with
  | zero => rw [if_pos rfl]; show lLast _ (A.length + 1) = _; rw [lLast_succ, gl_mid]
  | succ n => rw [if_neg (by omega), show A.length + 1 + (n + 1) = (A.length + 1 + n) + 1 by omega, lLast_succ, lLast_succ, gl_right]
/-- What the last of none is counts as little as a line's end. -/
theorem lLast_for {α : Type} (f : Int → α) (he : f e = f (-1)) (n : Nat) : f (lLast (A ++ e :: B) (A.length + 1 + n)) = f (lLast B n) := by
  rw [lLast_right]
  split
  · rename_i h; subst h; rw [he]; rfl
  · rfl
theorem lRegGo_fuel (c : List Int) : ∀ (f g n : Nat), n < f → n < g → lRegGo c f n = lRegGo c g n
  | 0, _, _, h, _ => by omega
  | _, 0, _, _, h => by omega
  | f + 1, g + 1, n, hf, hg => by
    unfold lRegGo
    split
    · rename_i h
      have h0 : n ≠ 0 := fun e => by subst e; simp [lLast] at h
      have := lPast_le c 8 (n - 1)
      rw [lRegGo_fuel c f g _ (by omega) (by omega)]
    · rfl
theorem lRegGo_right (he : e = 1 ∨ e = 3) : ∀ (f n : Nat), lRegGo (A ++ e :: B) f (A.length + 1 + n) = lRegGo B f n
  | 0, _ => rfl
  | f + 1, n => by
    unfold lRegGo
    rw [lLast_right]
    by_cases h0 : n = 0
    · subst h0
      rw [if_pos rfl, if_neg (by omega), if_neg (by simp [lLast])]
    · rw [if_neg h0, show A.length + 1 + n - 1 = A.length + 1 + (n - 1) by omega, lPast_right he (.inl rfl), lRegGo_right he f]
theorem lReg_right (he : e = 1 ∨ e = 3) (n : Nat) : lReg (A ++ e :: B) (A.length + 1 + n) = lReg B n := by
  unfold lReg
  have := lPast_le B 8 n
  rw [lPast_right he (.inl rfl), lRegGo_right he, lRegGo_fuel B _ (n + 1) _ (by omega) (by omega)]
theorem lNum_right (he : e = 1 ∨ e = 3) (n : Nat) : lNum (A ++ e :: B) (A.length + 1 + n) = lNum B n := by
  unfold lNum
  dsimp only
  have step : ∀ (L : List Int) (m : Nat), (L.contains e = false) → (L.contains (-1) = false) →
      (if L.contains (lLast (A ++ e :: B) (A.length + 1 + m)) = true then lPast (A ++ e :: B) 8 (A.length + 1 + m - 1) else A.length + 1 + m) = A.length + 1 + (if L.contains (lLast B m) = true then lPast B 8 (m - 1) else m) := by
    intro L m h1 h2
    rw [lLast_for (fun x => L.contains x) (by simp only [h1, h2]) m]
    split
    · rename_i h
      have h0 : m ≠ 0 := fun e0 => by subst e0; simp only [lLast, if_true] at h; rw [h2] at h; cases h
      rw [show A.length + 1 + m - 1 = A.length + 1 + (m - 1) by omega, lPast_right he (.inl rfl)]
    · rfl
  rw [lPast_right he (.inl rfl), step [11, 10] _ (by rcases he with rfl | rfl <;> rfl) rfl, step [14, 15] _ (by rcases he with rfl | rfl <;> rfl) rfl]
  exact lLast_for (fun x => x == 20) (by rcases he with rfl | rfl <;> rfl) _
/-- Behind a line's end a text begins anew. -/
theorem lCut_right (he : e = 1 ∨ e = 3) (j : Nat) : lCut (A ++ e :: B) (A.length + 1 + (j + 1)) = lCut B (j + 1) := by
  unfold lCut
  dsimp only
  rw [show A.length + 1 + (j + 1) - 1 = A.length + 1 + j by omega, show j + 1 - 1 = j from rfl, gl_right, gl_right, lPast_right he (.inl rfl), lPast_right he (.inr rfl)]
  have hzw : (lLast (A ++ e :: B) (A.length + 1 + lPast B 4 (j + 1)) = 5) = (lLast B (lPast B 4 (j + 1)) = 5) := lLast_for (fun x => x = 5) (by rcases he with rfl | rfl <;> simp) _
  have hgl := lLast_for (A := A) (B := B) (e := e) (fun x => lGlued (B.getD j 0) x (B.getD (j + 1) 0)) (by rcases he with rfl | rfl <;> simp [lGlued]) (lPast B 8 (j + 1))
  have hov : lOver (A ++ e :: B) (A.length + 1 + (j + 1)) (B.getD (j + 1) 0) = lOver B (j + 1) (B.getD (j + 1) 0) := by
    unfold lOver
    rw [lPast_right he (.inr rfl), lPast_right he (.inl rfl)]
    exact lLast_for (fun x => x == 9 || x == 12 && B.getD (j + 1) 0 == 9 || [11, 10].contains x && B.getD (j + 1) 0 == 24 || x == 18 && B.getD (j + 1) 0 == 18) (by rcases he with rfl | rfl <;> simp) _
  have hle : lLetters (A ++ e :: B) (A.length + 1 + (j + 1)) (lLast (A ++ e :: B) (A.length + 1 + lPast B 8 (j + 1))) (B.getD (j + 1) 0) = lLetters B (j + 1) (lLast B (lPast B 8 (j + 1))) (B.getD (j + 1) 0) := by
    unfold lLetters
    rw [lNum_right he, lReg_right he, show A.length + 1 + (j + 1) + 1 = A.length + 1 + (j + 1 + 1) by omega, gl_right]
    have hd : decide (A.length + 1 + (j + 1 + 1) < (A ++ e :: B).length) = decide (j + 1 + 1 < B.length) := by
      rw [List.length_append, List.length_cons, decide_eq_decide]; omega
    rw [hd]
    exact lLast_for (fun x => ([12, 17, 16, 24, 19].contains (B.getD (j + 1) 0) || x == 12 || lPairs x (B.getD (j + 1) 0)) || ([21, 22].contains (B.getD (j + 1) 0) && lNum B (j + 1)) ||
      ([21, 22].contains x && (B.getD (j + 1) 0 == 20 || [9, 16].contains (B.getD (j + 1) 0) && decide (j + 1 + 1 < B.length) && B.getD (j + 1 + 1) 0 == 20)) || (B.getD (j + 1) 0 == 25 && lReg B (j + 1) % 2 == 1)) (by rcases he with rfl | rfl <;> simp [lPairs]) _
  rw [hgl, hov, hle]
  simp only [hzw]
theorem lCut_begin (he : e = 1 ∨ e = 3) : lCut (A ++ e :: B) (A.length + 1) = true := by
  rw [lCut_end (by rw [gl_mid]; rcases he with rfl | rfl <;> rfl), gl_mid, decide_eq_false (by omega)]; rfl
end
end Go.Proofs.YtlbfbkdcjdeagaaGreatDoor

/-
  PLAIN: lines: the chances of a text; a line's end parts them; blanks. No walk.
-/
namespace Go.Proofs.YtlbfbkdcjdeagaaGreatDoor

/- Two texts with a whole rune between them. -/
theorem decN_tail {n b0 b1 b2 b3 R W : Nat} (h : Lib.decodeN n b0 b1 b2 b3 = (R, W)) : (2 ≤ W → b1 / 64 = 2) ∧ (3 ≤ W → b2 / 64 = 2) ∧ (4 ≤ W → b3 / 64 = 2) ∧ W ≤ 4 := by
  unfold Lib.decodeN at h
  repeat' split at h
  all_goals (injection h with _ h; omega)
theorem dec_tail {s : ByteArray} {i k R W : Nat} (h : Utf8.decode s i = (R, W)) (hk : 0 < k) (hW : k < W) : (s.get! (i + k)).toNat / 64 = 2 := by
  rw [Lib.decode_at] at h
  obtain ⟨h1, h2, h3, h4⟩ := decN_tail h
  rcases (show k = 1 ∨ k = 2 ∨ k = 3 by omega) with rfl | rfl | rfl
  · exact h1 (by omega)
  · exact h2 (by omega)
  · exact h3 (by omega)
/-- Where a byte stands that begins a rune a rune begins. -/
theorem lead_at (s : ByteArray) {z : Nat} (hz : z < s.size) (ha : (s.get! z).toNat / 64 ≠ 2) : ∀ (f a : Nat), s.size ≤ a + f → a ≤ z → ∃ x ∈ runesGo s f a, x.2.1 = z
  | 0, a, hf, hle => by omega
  | f + 1, a, hf, hle => by
    have hlt : a < s.size := by omega
    have hd := dec_bd s a hlt
    obtain ⟨⟨R, W⟩, hD⟩ : ∃ d, Utf8.decode s a = d := ⟨_, rfl⟩
    rw [hD] at hd
    simp only at hd
    have hr : runesGo s (f + 1) a = (R, a, a + W) :: runesGo s f (a + W) := by rw [runesGo, if_pos hlt, hD]
    rw [hr]
    by_cases haz : a = z
    · exact ⟨_, List.mem_cons_self, haz⟩
    · have hle2 : a + W ≤ z := by
        rcases Nat.lt_or_ge z (a + W) with h | h
        · have := dec_tail hD (k := z - a) (by omega) (by omega)
          rw [show a + (z - a) = z by omega] at this; omega
        · exact h
      obtain ⟨x, hx, e⟩ := lead_at s hz ha f (a + W) (by omega) hle2
      exact ⟨x, List.mem_cons_of_mem _ hx, e⟩
theorem runes_joinM (s t : ByteArray) (m : List UInt8) (R : Nat) (hm : Chunk m) (hR : (Utf8.decode (bytesOf m) 0).1 = R) (hl : (m.getD 0 0).toNat / 64 ≠ 2) {u : ByteArray} (hu : u.data.toList = s.data.toList ++ m ++ t.data.toList) :
    runesP u = runesP s ++ (R, s.size, s.size + m.length) :: (runesP t).map (shR (s.size + m.length)) := by
  obtain ⟨m1, m2, m3⟩ := hm
  have m1' : 0 < m.length := List.length_pos_iff.2 m1
  have hz : u.size = s.size + m.length + t.size := by rw [← size_data, hu, List.length_append, List.length_append, size_data, size_data]
  have hget : ∀ k, u.get! k = u.data.toList.getD k 0 := fun k => (Lib.getD_get!' u k).symm
  have hgm : ∀ k, k < m.length → u.get! (s.size + k) = m.getD k 0 := fun k hk => by
    rw [hget, hu, List.append_assoc, List.getD_eq_getElem?_getD, List.getD_eq_getElem?_getD, List.getElem?_append_right (by rw [size_data]; omega), size_data, Nat.add_sub_cancel_left, List.getElem?_append_left hk]
  have hplace := lead_at u (z := s.size) (by omega) (by have := hgm 0 m1'; rw [Nat.add_zero] at this; rw [this]; exact hl) u.size 0 (by omega) (Nat.zero_le _)
  have hs : u.extract 0 s.size = s := by
    have : (u.extract 0 s.size).data.toList = s.data.toList := by
      rw [ByteArray.data_extract, Array.toList_extract, List.extract_eq_take_drop, List.drop_zero, Nat.sub_zero, hu, List.append_assoc, List.take_append_of_le_length (by rw [size_data]; exact Nat.le_refl _), List.take_of_length_le (by rw [size_data]; exact Nat.le_refl _)]
    rw [← bytesOf_data (u.extract 0 s.size), this, bytesOf_data]
  have h1 : runesP s = (runesP u).takeWhile fun x => decide (x.2.1 < s.size) := by
    have := runesP_prefix u (z := s.size) (by omega) (.inr (.inr hplace))
    rw [hs] at this; exact this
  have h2 := split_at_place u (z := s.size) u.size 0 (by omega) hplace
  rw [h1]
  unfold runesP at h2 ⊢
  conv => lhs; rw [h2]
  congr 1
  obtain ⟨k, hk, e⟩ := runesGo_step (s := u) (f := u.size) (a := s.size) (by omega) (by omega)
  obtain ⟨⟨R', W⟩, hD⟩ : ∃ d, Utf8.decode (bytesOf m) 0 = d := ⟨_, rfl⟩
  rw [hD] at m2 m3 hR
  simp only at m2 m3 hR
  subst m2; subst hR
  have hd : Utf8.decode u s.size = (R', m.length) := dec_same hD (by omega) m3 (by omega) fun k hk => by rw [hgm k hk, bytesOf_get, Nat.zero_add]
  rw [e, hd]
  simp only
  congr 1
  have := runes_shift u t (s.size + m.length) (by omega) (fun k => by
    rw [hget, hu, ← Lib.getD_get!' t, List.getD_eq_getElem?_getD, List.getD_eq_getElem?_getD, List.getElem?_append_right (by rw [List.length_append, size_data]; omega), List.length_append, size_data, Nat.add_sub_cancel_left]) t.size k 0 (by omega) (by omega)
  rw [Nat.zero_add] at this
  exact this

def lCls (g : Int → Nat) (s : ByteArray) : List Int := (runesP s).map fun x => (g x.1 : Int)
def lPick (c : List Int) : Nat → List Nat → List (Nat × Bool)
  | _, [] => []
  | i, a :: r => (if i ≠ 0 ∧ lCut c i = true then [(a, lMust (c.getD (i - 1) 0))] else []) ++ lPick c (i + 1) r
/-- The chances of a text. -/
def lChances (g : Int → Nat) (s : ByteArray) : List (Nat × Bool) := lPick (lCls g s) 0 ((runesP s).map (·.2.1)) ++ (if s.size = 0 then [] else [(s.size, true)])
theorem lCls_len (g : Int → Nat) (s : ByteArray) : (lCls g s).length = (runesP s).length := by simp [lCls]
theorem lPick_append (c : List Int) : ∀ (P Q : List Nat) (i : Nat), lPick c i (P ++ Q) = lPick c i P ++ lPick c (i + P.length) Q
  | [], Q, i => by simp [lPick]
  | a :: P, Q, i => by
    rw [List.cons_append, lPick, lPick, lPick_append c P Q (i + 1), List.append_assoc, List.length_cons, show i + 1 + P.length = i + (P.length + 1) by omega]
theorem lPick_congr {c d : List Int} : ∀ (P : List Nat) (i j : Nat), (∀ k, k < P.length → ((i + k ≠ 0 ∧ lCut c (i + k) = true) ↔ (j + k ≠ 0 ∧ lCut d (j + k) = true)) ∧ (i + k ≠ 0 → c.getD (i + k - 1) 0 = d.getD (j + k - 1) 0)) → lPick c i P = lPick d j P
  | [], _, _, _ => rfl
  | a :: P, i, j, h => by
    have h0 := h 0 (by simp)
    simp only [Nat.add_zero] at h0
    rw [lPick, lPick, lPick_congr P (i + 1) (j + 1) (fun k hk => by
      have := h (k + 1) (by simpa using hk)
      rw [show i + 1 + k = i + (k + 1) by omega, show j + 1 + k = j + (k + 1) by omega]; exact this)]
    congr 1
    by_cases hc : i ≠ 0 ∧ lCut c i = true
    · rw [if_pos hc, if_pos (h0.1.1 hc), h0.2 hc.1]
    · rw [if_neg hc, if_neg (fun k => hc (h0.1.2 k))]
def shC (p : Nat) (x : Nat × Bool) : Nat × Bool := (x.1 + p, x.2)
theorem lPick_map (c : List Int) (p : Nat) : ∀ (P : List Nat) (i : Nat), lPick c i (P.map (· + p)) = (lPick c i P).map (shC p)
  | [], _ => rfl
  | a :: P, i => by
    rw [List.map_cons, lPick, lPick, lPick_map c p P (i + 1), List.map_append]
    congr 1
    split <;> rfl
/-- Behind a line's end a text begins anew. -/
theorem lChances_parts {g : Int → Nat} {m : List UInt8} {R : Nat} (hm : Chunk m) (hR : (Utf8.decode (bytesOf m) 0).1 = R) (hl : (m.getD 0 0).toNat / 64 ≠ 2) (hg : g R = 1 ∨ g R = 3) {s t u v : ByteArray} (hu : u.data.toList = s.data.toList ++ m) (hv : v.data.toList = s.data.toList ++ m ++ t.data.toList) :
    lChances g v = lChances g u ++ (lChances g t).map (shC u.size) := by
  have m1' : 0 < m.length := List.length_pos_iff.2 hm.1
  have zu : u.size = s.size + m.length := by rw [← size_data, hu, List.length_append, size_data]
  have zv : v.size = u.size + t.size := by rw [← size_data, hv, List.length_append, List.length_append, size_data, size_data]; omega
  have ru : runesP u = runesP s ++ [(R, s.size, s.size + m.length)] := by
    have := runes_joinM s (bytesOf []) m R hm hR hl (u := u) (by rw [hu, bytesOf_list, List.append_nil])
    rw [this]; rfl
  have rv := runes_joinM s t m R hm hR hl hv
  rw [← zu] at ru rv
  have he : (g R : Int) = 1 ∨ (g R : Int) = 3 := by omega
  have cu : lCls g u = lCls g s ++ [(g R : Int)] := by unfold lCls; rw [ru, List.map_append]; rfl
  have cv : lCls g v = lCls g s ++ (g R : Int) :: lCls g t := by
    unfold lCls
    rw [rv, List.map_append, List.map_cons, List.map_map]; rfl
  have pu : (runesP u).map (·.2.1) = (runesP s).map (·.2.1) ++ [s.size] := by rw [ru, List.map_append]; rfl
  have pv : (runesP v).map (·.2.1) = ((runesP s).map (·.2.1) ++ [s.size]) ++ ((runesP t).map (·.2.1)).map (· + u.size) := by
    rw [rv, List.map_append, List.map_cons, List.map_map, List.map_map, List.append_assoc]; rfl
  unfold lChances
  rw [pv, pu, cv, cu, lPick_append]
  generalize hA : lCls g s = A
  generalize hB : lCls g t = B
  have lA : A.length = (runesP s).length := by rw [← hA, lCls_len]
  have e1 : lPick (A ++ (g R : Int) :: B) 0 ((runesP s).map (·.2.1) ++ [s.size]) = lPick (A ++ [(g R : Int)]) 0 ((runesP s).map (·.2.1) ++ [s.size]) := lPick_congr _ 0 0 fun k hk => by
    rw [List.length_append, List.length_map, List.length_singleton, ← lA] at hk
    rw [Nat.zero_add]
    refine ⟨?_, fun h0 => by rw [gl_left (by omega), gl_left (by omega)]⟩
    by_cases h0 : k = 0
    · subst h0; simp
    · rw [lCut_left he (by omega) (by omega)]
  rw [e1, if_neg (by omega : ¬ u.size = 0), Nat.zero_add, List.length_append, List.length_map, List.length_singleton, ← lA]
  by_cases ht : t.size = 0
  · have : runesP t = [] := by unfold runesP; rw [ht]; rfl
    rw [this, if_neg (by omega), if_pos ht, zv, ht]
    simp [lPick]
  · rw [if_neg (by omega), if_neg ht]
    obtain ⟨k, hk, er⟩ := runesGo_step (s := t) (f := t.size) (a := 0) (by omega) (by omega)
    have hP : ∃ Q, (runesP t).map (·.2.1) = 0 :: Q := ⟨_, by unfold runesP; rw [er, List.map_cons]⟩
    obtain ⟨Q, hQ⟩ := hP
    rw [hQ, List.map_cons, lPick, if_pos ⟨by omega, lCut_begin he⟩, Nat.add_sub_cancel, gl_mid, lPick_map]
    have hmu : lMust (g R : Int) = true := by rcases he with h | h <;> rw [h] <;> rfl
    have e2 : lPick (A ++ (g R : Int) :: B) (A.length + 1 + 1) Q = lPick B 1 Q := lPick_congr _ _ _ fun k _ => by
      rw [show A.length + 1 + 1 + k = A.length + 1 + (k + 1) by omega, show 1 + k = k + 1 by omega, lCut_right he]
      refine ⟨by simp, fun _ => ?_⟩
      rw [show A.length + 1 + (k + 1) - 1 = A.length + 1 + k by omega, gl_right]; rfl
    have e3 : lPick B 0 (0 :: Q) = lPick B 1 Q := by rw [lPick, if_neg (by simp)]; rfl
    rw [e2, e3, hmu, zv, List.map_append]
    simp [shC, Nat.add_comm]
end Go.Proofs.YtlbfbkdcjdeagaaGreatDoor

/-
  PLAIN: whether a place is an edge, told by looking back three bytes. No walk.
-/
namespace Go.Proofs.YtlbfbkdcjdeagaaGreatDoor

/-- A rune of several bytes begins with a byte that begins runes. -/
theorem decN_lead {n b0 b1 b2 b3 R W : Nat} (h : Lib.decodeN n b0 b1 b2 b3 = (R, W)) (hW : 2 ≤ W) (h0 : b0 < 256) : b0 / 64 = 3 := by
  unfold Lib.decodeN at h
  repeat' split at h
  all_goals (injection h with _ h; omega)
theorem dec_lead {s : ByteArray} {i R W : Nat} (h : Utf8.decode s i = (R, W)) (hW : 2 ≤ W) : (s.get! i).toNat / 64 = 3 := by
  rw [Lib.decode_at] at h
  exact decN_lead h hW (s.get! i).toNat_lt
theorem decN_room {n b0 b1 b2 b3 R W : Nat} (h : Lib.decodeN n b0 b1 b2 b3 = (R, W)) (hW : 2 ≤ W) : W ≤ n := by
  unfold Lib.decodeN at h
  repeat' split at h
  all_goals (injection h with _ h; omega)
theorem dec_in {s : ByteArray} {i R W : Nat} (h : Utf8.decode s i = (R, W)) (hW : 2 ≤ W) : i + W ≤ s.size := by
  rw [Lib.decode_at] at h
  have := decN_room h hW; omega
/-- Looked back: does a rune that begins one, two or three bytes ahead reach over the place? -/
def edgeB (s : ByteArray) (z : Nat) : Bool := [1, 2, 3].all fun b => !(decide (b ≤ z) && decide (b < (Utf8.decode s (z - b)).2))
theorem place_gap (s : ByteArray) : ∀ (r : List (Nat × Nat × Nat)) (p z : Nat), Contig p r z → ∀ x ∈ r, ∀ y ∈ r, ¬ (x.2.1 < y.2.1 ∧ y.2.1 < x.2.2)
  | [], _, _, _, x, hx, _, _ => by simp at hx
  | a :: r, p, z, h, x, hx, y, hy => by
    obtain ⟨h1, h2, h3⟩ := h
    have hle : ∀ {r : List (Nat × Nat × Nat)} {p z : Nat}, Contig p r z → ∀ x ∈ r, p ≤ x.2.1 := by
      intro r
      induction r with
      | nil => intro p z _ x hx; simp at hx
      | cons w r ih =>
        intro p z h x hx
        obtain ⟨k1, k2, k3⟩ := h
        rcases List.mem_cons.1 hx with rfl | hx
        · omega
        · have := ih k3 x hx; omega
    rcases List.mem_cons.1 hx with ex | hx'
    · rcases List.mem_cons.1 hy with ey | hy'
      · rw [ex, ey]; omega
      · have := hle h3 y hy'; rw [ex]; omega
    · rcases List.mem_cons.1 hy with ey | hy'
      · have := hle h3 x hx'; rw [ey]; omega
      · exact place_gap s r _ z h3 x hx' y hy'
theorem in_rune : ∀ (r : List (Nat × Nat × Nat)) (p z q : Nat), Contig p r z → p ≤ q → q < z → ∃ x ∈ r, x.2.1 ≤ q ∧ q < x.2.2
  | [], p, z, q, h, h1, h2 => by have : p = z := h; omega
  | a :: r, p, z, q, h, h1, h2 => by
    obtain ⟨k1, k2, k3⟩ := h
    rcases Nat.lt_or_ge q a.2.2 with hlt | hge
    · exact ⟨a, by simp, by omega, hlt⟩
    · obtain ⟨x, hx, e⟩ := in_rune r _ z q k3 hge h2
      exact ⟨x, by simp [hx], e⟩
/-- An edge is a place where a rune begins, or the end. -/
theorem edge_iff (s : ByteArray) {z : Nat} (hz : z ≤ s.size) : edgeB s z = true ↔ PlaceAt s z := by
  unfold edgeB
  rw [List.all_eq_true]
  constructor
  · intro h
    rcases Nat.lt_or_ge z s.size with hlt | hge
    · obtain ⟨x, hx, h1, h2⟩ := in_rune _ 0 s.size z (runesP_contig s) (Nat.zero_le _) hlt
      have hb := runesP_bd x hx
      have hd := runesGo_dec _ _ x hx
      rcases Nat.lt_or_ge x.2.1 z with h3 | h3
      · exfalso
        have := h (z - x.2.1) (by simp; omega)
        rw [show z - (z - x.2.1) = x.2.1 by omega, hd] at this
        simp at this
        omega
      · exact .inr ⟨x, hx, by omega⟩
    · exact .inl (by omega)
  · intro hp b hb
    simp only [List.mem_cons, List.not_mem_nil, or_false] at hb
    rw [Bool.not_eq_true', Bool.and_eq_false_iff, decide_eq_false_iff_not, decide_eq_false_iff_not]
    by_cases hbz : b ≤ z
    · refine .inr fun hw => ?_
      obtain ⟨⟨R, W⟩, hD⟩ : ∃ d, Utf8.decode s (z - b) = d := ⟨_, rfl⟩
      rw [hD] at hw
      simp only at hw
      have hroom := dec_in hD (by omega)
      have hl := dec_lead hD (by omega)
      obtain ⟨x, hx, e⟩ := lead_at s (z := z - b) (by omega) (by omega) s.size 0 (by omega) (Nat.zero_le _)
      have hd := runesGo_dec _ _ x hx
      rw [e, hD] at hd
      injection hd with _ hd2
      have hbd := runesP_bd x hx
      rcases hp with h | ⟨y, hy, h⟩
      · omega
      · exact place_gap s _ 0 s.size (runesP_contig s) x hx y hy (by omega)
    · exact .inl hbz
end Go.Proofs.YtlbfbkdcjdeagaaGreatDoor

/- The contract of the library's utf8.ValidString at this seat's program, as the kit's own tools lay it. -/
namespace Go.Proofs
open Go.Shelf
def Tryz.lays196_ren : Go.Shelf.Ren := ⟨fun | 196 => 84 | 259 => 120 | n => n, fun | 9 => 9 | 4 => 4 | 3 => 3 | 5 => 5 | 12 => 12 | 119 => 123 | 0 => 0 | 46 => 121 | 139 => 126 | 138 => 125 | 53 => 148 | n => n, fun | 3 => 0 | 4 => 1 | n => n⟩
theorem Tryz.lays196 : Go.Proofs.Lays.n196 Tryz.prog Tryz.lays196_ren := {
  mixed := by kernel_rfl
  f196 := Tryz.func84.trans (congrArg some (by kernel_rfl))
  f259 := Tryz.func120.trans (congrArg some (by kernel_rfl))
  t0 := Tryz.underlying0
  a0 := Tryz.isAgg0
  z0 := Tryz.sizeOf0
  v0 := Tryz.zeroValue0
  t3 := Tryz.underlying3
  a3 := Tryz.isAgg3
  z3 := Tryz.sizeOf3
  v3 := Tryz.zeroValue3
  t4 := Tryz.underlying4
  a4 := Tryz.isAgg4
  z4 := Tryz.sizeOf4
  v4 := Tryz.zeroValue4
  t5 := Tryz.underlying5
  a5 := Tryz.isAgg5
  z5 := Tryz.sizeOf5
  v5 := Tryz.zeroValue5
  t9 := Tryz.underlying9
  a9 := Tryz.isAgg9
  z9 := Tryz.sizeOf9
  v9 := Tryz.zeroValue9
  t12 := Tryz.underlying12
  a12 := Tryz.isAgg12
  z12 := Tryz.sizeOf12
  v12 := Tryz.zeroValue12
  t46 := Tryz.underlying121
  a46 := Tryz.isAgg121
  z46 := Tryz.sizeOf121
  v46 := Tryz.zeroValue121
  t53 := Tryz.underlying148
  a53 := Tryz.isAgg148
  z53 := Tryz.sizeOf148
  v53 := Tryz.zeroValue148
  t119 := Tryz.underlying123
  a119 := Tryz.isAgg123
  z119 := Tryz.sizeOf123
  t138 := Tryz.underlying125
  a138 := Tryz.isAgg125
  z138 := Tryz.sizeOf125
  v138 := Tryz.zeroValue125
  t139 := Tryz.underlying126
  a139 := Tryz.isAgg126
  z139 := Tryz.sizeOf126
  v139 := Tryz.zeroValue126
  g3 := by kernel_rfl
  g4 := by kernel_rfl }
end Go.Proofs

