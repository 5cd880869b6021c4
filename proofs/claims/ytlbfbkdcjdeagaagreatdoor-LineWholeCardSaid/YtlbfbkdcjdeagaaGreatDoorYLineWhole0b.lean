/-
  Several texts in one, in their build order: UtfL, RunD, RunT, Ue, Rng, AppIn, RngC, Ge, Each, Kt, LinT, LinU, WorT, Va, VP, HexR, Bld, Grow, Upper, Repeat, Spell, Join, Print, Wi, Wj, Vb, Qt, Vc, Vd, Ve, Vf, Vg.
-/
import Derived.Lib.SpaceU
import Derived.RangeFuncNested
import Derived.RangeFuncBound
import Derived.RangeFuncCalls
import Derived.RangeFuncLeaves
import Derived.Shelf.Abstract
import Derived.Shelf.RegionOpen
import Derived.OwnWalkIn
import Derived.TacticsInMore
import Derived.LoopNIn
import Derived.LoopIn
import Derived.RangeFuncKeeps
import Derived.Deep.DeepMust
import Derived.Deep.LoopGhost
import Derived.Shelf.Strings.BuilderK
import Derived.Lib.OthersKept
import Derived.RangeFuncOwn
import Derived.Lib.Builder
import Derived.Lib.FrozenHead2
import Derived.RegionTactic
import Derived.BigRegion
import Derived.Deep.RegionHeld3
import Derived.Test.YtlbfbkdcjdeagaaGreatDoorYLineWhole0a
import Derived.Test.YtlbfbkdcjdeagaaGreatDoorZRunC
import Derived.Test.YtlbfbkdcjdeagaaGreatDoorZ1a
import Derived.Test.YtlbfbkdcjdeagaaGreatDoorZ1b
import Derived.Test.YtlbfbkdcjdeagaaGreatDoorZ0a
import Derived.Test.YtlbfbkdcjdeagaaGreatDoorZWa
import Derived.Test.YtlbfbkdcjdeagaaGreatDoorZ2a
import Derived.Test.YtlbfbkdcjdeagaaGreatDoorZRefU
import Derived.Test.YtlbfbkdcjdeagaaGreatDoorZShelf
import Derived.Test.YtlbfbkdcjdeagaaGreatDoorZWh
import Derived.Test.YtlbfbkdcjdeagaaGreatDoorZRefX
/-
  PLAIN: the last rune of a text, as the library finds it from behind, is the last of its runes. No walk.
-/
namespace Go.Proofs.YtlbfbkdcjdeagaaGreatDoor

theorem lastStart_eq (l : List UInt8) : Lib.lastStart l = if l.length < 2 then 0 else if Lib.runeStartB (l.getD (l.length - 2) 0) = true then l.length - 2 else if l.length < 3 then 0 else if Lib.runeStartB (l.getD (l.length - 3) 0) = true then l.length - 3 else if l.length < 4 then 0 else if Lib.runeStartB (l.getD (l.length - 4) 0) = true then l.length - 4 else if l.length < 5 then 0 else l.length - 5 := rfl
theorem start_iff (b : UInt8) : Lib.runeStartB b = true ↔ b.toNat / 64 ≠ 2 := by unfold Lib.runeStartB; simp
theorem dec_drop (s : ByteArray) (k : Nat) : Lib.decodeL (s.data.toList.drop k) = Utf8.decode s k := by
  unfold Lib.decodeL
  have h := Lib.tail_decode s k 0
  rw [Nat.add_zero] at h
  rw [← h]
  congr 1
  have : (s.extract k s.size).data.toList = s.data.toList.drop k := by
    rw [ByteArray.data_extract, Array.toList_extract, List.extract_eq_take_drop, List.take_of_length_le (by rw [List.length_drop, size_data]; exact Nat.le_refl _)]
  rw [← this]
theorem last_rune (s : ByteArray) {x : Nat × Nat × Nat} (hx : x ∈ runesP s) (he : x.2.2 = s.size) : Lib.decodeLastL s.data.toList = (x.1, x.2.2 - x.2.1) := by
  have hb := runesP_bd x hx
  have hd := runesGo_dec _ _ x hx
  have hsz := size_data s
  have hget : ∀ k, s.data.toList.getD k 0 = s.get! k := fun k => Lib.getD_get!' s k
  have hne : s.data.toList ≠ [] := fun h => by rw [h] at hsz; simp at hsz; omega
  -- no other rune ends there
  have huniq : ∀ y ∈ runesP s, y.2.1 < s.size → x.2.1 ≤ y.2.1 → y.2.1 = x.2.1 := fun y hy h1 h2 => by
    rcases Nat.lt_or_ge x.2.1 y.2.1 with h3 | h3
    · exact absurd ⟨h3, by omega⟩ (place_gap s _ 0 s.size (runesP_contig s) x hx y hy)
    · omega
  unfold Lib.decodeLastL
  rw [if_neg hne, hsz, hget]
  by_cases hasc : (s.get! (s.size - 1)).toNat < 128
  · rw [if_pos hasc]
    obtain ⟨y, hy, e⟩ := ascii_at s (z := s.size - 1) (by omega) hasc s.size 0 (by omega) (Nat.zero_le _)
    have := huniq y hy (by omega) (by omega)
    have hp : x.2.1 = s.size - 1 := by omega
    rw [hp, Lib.decode_at] at hd
    unfold Lib.decodeN at hd
    rw [if_pos hasc] at hd
    rw [hp, ← hd]
  · rw [if_neg hasc]
    have hst : Lib.lastStart s.data.toList < s.size ∧ (Lib.lastStart s.data.toList + 1 = s.size → s.size = 1) := by
      rw [lastStart_eq, hsz]
      repeat' split
      all_goals omega
    rw [dec_drop s _]
    simp only
    rcases Nat.lt_or_ge (x.2.2 - x.2.1) 2 with hW | hW
    · -- one byte
      have hp : x.2.1 = s.size - 1 := by omega
      have hW1 : x.2.2 - x.2.1 = 1 := by omega
      have hR : x.1 = 65533 := by
        rw [hW1, hp, Lib.decode_at] at hd
        unfold Lib.decodeN at hd
        rw [if_neg hasc] at hd
        repeat' split at hd
        all_goals (injection hd with h1 h2; omega)
      obtain ⟨⟨R', W'⟩, hD⟩ : ∃ d, Utf8.decode s (Lib.lastStart s.data.toList) = d := ⟨_, rfl⟩
      have hbd := dec_bd s _ hst.1
      rw [hD] at hbd ⊢
      simp only at hbd ⊢
      split
      · rename_i hsum
        rcases Nat.lt_or_ge W' 2 with h1 | h1
        · have h0 : Lib.lastStart s.data.toList = x.2.1 := by have := hst.2 (by omega); omega
          rw [h0, hd] at hD
          exact hD.symm
        · exfalso
          have hl := dec_lead hD h1
          obtain ⟨y, hy, e⟩ := lead_at s hst.1 (by omega) s.size 0 (by omega) (Nat.zero_le _)
          have hdy := runesGo_dec _ _ y hy
          rw [e, hD] at hdy
          injection hdy with _ h2
          have hby := runesP_bd y hy
          exact place_gap s _ 0 s.size (runesP_contig s) y hy x hx (by omega)
      · rw [hR, hW1]; rfl
    · -- several bytes
      have hl := dec_lead hd hW
      have htail : ∀ k, 0 < k → k < x.2.2 - x.2.1 → ¬ Lib.runeStartB (s.data.toList.getD (x.2.1 + k) 0) = true := fun k h0 h1 => by
        rw [start_iff, hget]
        have := dec_tail hd h0 h1
        omega
      have hlead : Lib.runeStartB (s.data.toList.getD x.2.1 0) = true := by rw [start_iff, hget]; omega
      have hls : Lib.lastStart s.data.toList = x.2.1 := by
        rw [lastStart_eq, hsz]
        rcases (show x.2.2 - x.2.1 = 2 ∨ x.2.2 - x.2.1 = 3 ∨ x.2.2 - x.2.1 = 4 by omega) with h | h | h
        · rw [if_neg (by omega), show s.size - 2 = x.2.1 by omega, if_pos hlead]
        · rw [if_neg (by omega), show s.size - 2 = x.2.1 + 1 by omega, if_neg (htail 1 (by omega) (by omega)), if_neg (by omega), show s.size - 3 = x.2.1 by omega, if_pos hlead]
        · rw [if_neg (by omega), show s.size - 2 = x.2.1 + 2 by omega, if_neg (htail 2 (by omega) (by omega)), if_neg (by omega), show s.size - 3 = x.2.1 + 1 by omega, if_neg (htail 1 (by omega) (by omega)), if_neg (by omega), show s.size - 4 = x.2.1 by omega, if_pos hlead]
      rw [hls, hd, if_pos (by simp only; omega)]
end Go.Proofs.YtlbfbkdcjdeagaaGreatDoor

/-
  runes.Count, At, Index.
-/
namespace Go.Proofs.YtlbfbkdcjdeagaaGreatDoor
open Go.RowKit
end Go.Proofs.YtlbfbkdcjdeagaaGreatDoor

/-
  runes.Runs: the iterator over the runs of a text.
-/
namespace Go.Proofs.YtlbfbkdcjdeagaaGreatDoor
open Go.RowKit Go.Shelf
attribute [local go_sem] Oper.semAt_some

/-- What lies from block m on and below block n stands as it stood. -/
structure Mid (m n : Nat) (W W' : World) : Prop where
  size : W.heap.size ≤ W'.heap.size
  block : ∀ k, m ≤ k → k < n → W'.heap[k]? = W.heap[k]?
theorem Mid.refl (m n : Nat) (W : World) : Mid m n W W := ⟨Nat.le_refl _, fun _ _ _ => rfl⟩
theorem Mid.trans {m n : Nat} {A B C : World} (h : Mid m n A B) (k : Mid m n B C) : Mid m n A C := ⟨Nat.le_trans h.size k.size, fun i h1 h2 => (k.block i h1 h2).trans (h.block i h1 h2)⟩
theorem Mid.of_below {m n : Nat} {A B : World} (h : RowKit.Below A.heap.size A B) (hn : n ≤ A.heap.size) : Mid m n A B := ⟨h.size, fun i _ h2 => h.block i (by omega)⟩
theorem Mid.of_belowB {m n b : Nat} {A B : World} (h : RowKit.Below b A B) (hn : n ≤ b) : Mid m n A B := ⟨h.size, fun i _ h2 => h.block i (by omega)⟩
theorem Mid.setCell {m n : Nat} {A B : World} (h : Mid m n A B) {p : Addr} (hp : p.block < m ∨ n ≤ p.block) (u : Value) : Mid m n A (B.setCell p u) :=
  ⟨by simpa [World.setCell] using h.size, fun i h1 h2 => (Below.heap_setCell B p u i (by omega)).trans (h.block i h1 h2)⟩
theorem Mid.alloc {m n : Nat} {A B : World} (h : Mid m n A B) (hn : n ≤ B.heap.size) (o : Obj) : Mid m n A (B.alloc o) := h.trans (Mid.of_below ((RowKit.Below.refl _ _).alloc (Nat.le_refl _) o) hn)
theorem Mid.drewN {m n : Nat} {A B : World} (h : Mid m n A B) (q : Nat) : Mid m n A (B.drewN q) := ⟨h.size, h.block⟩
theorem Mid.cell {m n : Nat} {A B : World} (h : Mid m n A B) {p : Addr} {v : Value} (hv : A.cell? p = some v) (h1 : m ≤ p.block) (h2 : p.block < n) : B.cell? p = some v :=
  (World.cell?_of_block (h.block p.block h1 h2)).trans hv
theorem Rd.mid {m n s : Nat} {w w' : World} {A : Option Addr} {cs : List (List Value)} (h : Rd w s A cs) (hb : Mid m n w w') (hA : ∀ a, A = some a → m ≤ a.block ∧ a.block < n) : Rd w' s A cs :=
  h.keep fun b off i _ ha hp => hb.cell (p := ⟨b, i, none⟩) hp (hA ⟨b, off, none⟩ ha).1 (hA ⟨b, off, none⟩ ha).2
/-- What a round that goes on keeps for an iterator: what lies from m on and below n, and iterators. -/
def Kp (m n : Nat) (W W' : World) : Prop := Mid m n W W' ∧ KeepsWalks W W'
theorem Kp.trans {m n : Nat} {A B C : World} (h : Kp m n A B) (k : Kp m n B C) : Kp m n A C := ⟨h.1.trans k.1, h.2.trans k.2⟩
theorem Kp.put {m n : Nat} {w : World} (hn : n ≤ w.heap.size) (W : World) (l : Nat) (o o' : Obj) (hl : w.heap.size ≤ l) (h : W.heap[l]? = some o) (hc : o.isCells = false) (hw : o.isWalk = false) : Kp m n W (W.putObj l o') :=
  ⟨⟨by simp, fun k _ hk => World.putObj_heap_other (by omega)⟩, walksK_b W l o o' hl h hc hw⟩
theorem Kp.refl (m n : Nat) (W : World) : Kp m n W W := ⟨Mid.refl _ _ _, KeepsWalks.refl _⟩
theorem grown_of_below {w w' : World} (h : RowKit.Below w.heap.size w w') : w.grownBy w' none := ⟨h.os, h.tape, h.output, h.size, fun k hk _ => h.block k hk⟩
theorem grown_iterAt (w : World) (k : Nat) (s : ByteArray) (p : Nat) : w.grownBy (w.iterAt k s p) (some k) :=
  ⟨rfl, rfl, rfl, by rw [Lib.iterAt_size]; exact Nat.le_refl _, fun j _ hj => Lib.iterAt_other w k j s p (fun e => hj (by rw [e]))⟩
theorem abides_below {β : Type} {B : Nat} {J : β → World → Prop} (h : AbidesFrom B J) {x : β} {w w' : World} (hx : J x w) (hb : RowKit.Below w.heap.size w w') : J x w' := h x w w' none hx (grown_of_below hb) (fun _ e => by cases e)
theorem abides_iterAt {β : Type} {B : Nat} {J : β → World → Prop} (h : AbidesFrom B J) {x : β} {w : World} (hx : J x w) {k : Nat} {s : ByteArray} {p : Nat} (hk : w.heap[k]? = some (.stringIter s p)) (hB : B ≤ k) (p' : Nat) : J x (w.iterAt k s p') :=
  h x w _ (some k) hx (grown_iterAt w k s p') (fun r e => by cases e; exact ⟨hB, _, hk, rfl⟩)

def curV : Option Nat → Int
  | none => -1
  | some a => a
/-- How far the runs have come. -/
def RunsAt (s : ByteArray) (set : List (Int × Int)) (f p : Nat) (cur : Option Nat) (pre : List (Nat × Nat)) : Prop :=
  pre ++ runsGo (hasB set) s.size cur (runesGo s f p) = runsP s set ∧ s.size ≤ p + f ∧ p ≤ s.size ∧ ∀ a, cur = some a → a < p
section
variable {s : ByteArray} {set : List (Int × Int)} {f p : Nat} {cur : Option Nat} {pre : List (Nat × Nat)} {R W : Nat}
theorem runsAt_go (h : RunsAt s set f p cur pre) (hp : p < s.size) (hd : Utf8.decode s p = (R, W)) : ∃ g, f = g + 1 ∧ pre ++ runsGo (hasB set) s.size cur ((R, p, p + W) :: runesGo s g (p + W)) = runsP s set := by
  obtain ⟨g, rfl, hg⟩ := runesGo_step (s := s) (f := f) hp h.2.1
  rw [hd] at hg
  exact ⟨g, rfl, by rw [← h.1, hg]⟩
theorem runsAt_in (h : RunsAt s set f p none pre) (hp : p < s.size) (hd : Utf8.decode s p = (R, W)) (hw : 1 ≤ W ∧ p + W ≤ s.size) (hh : hasB set R = true) : ∃ g, RunsAt s set g (p + W) (some p) pre := by
  obtain ⟨g, rfl, hg⟩ := runsAt_go h hp hd
  rw [runsGo, if_pos hh] at hg
  exact ⟨g, hg, by have := h.2.1; omega, hw.2, fun a ha => by cases ha; omega⟩
theorem runsAt_out (h : RunsAt s set f p none pre) (hp : p < s.size) (hd : Utf8.decode s p = (R, W)) (hw : 1 ≤ W ∧ p + W ≤ s.size) (hh : hasB set R = false) : ∃ g, RunsAt s set g (p + W) none pre := by
  obtain ⟨g, rfl, hg⟩ := runsAt_go h hp hd
  rw [runsGo, if_neg (by rw [hh]; exact Bool.false_ne_true)] at hg
  exact ⟨g, hg, by have := h.2.1; omega, hw.2, fun a ha => by cases ha⟩
theorem runsAt_on {a : Nat} (h : RunsAt s set f p (some a) pre) (hp : p < s.size) (hd : Utf8.decode s p = (R, W)) (hw : 1 ≤ W ∧ p + W ≤ s.size) (hh : hasB set R = true) : ∃ g, RunsAt s set g (p + W) (some a) pre := by
  obtain ⟨g, rfl, hg⟩ := runsAt_go h hp hd
  rw [runsGo, if_pos hh] at hg
  exact ⟨g, hg, by have := h.2.1; omega, hw.2, fun b hb => by have := h.2.2.2 b hb; omega⟩
theorem runsAt_off {a : Nat} (h : RunsAt s set f p (some a) pre) (hp : p < s.size) (hd : Utf8.decode s p = (R, W)) (hw : 1 ≤ W ∧ p + W ≤ s.size) (hh : hasB set R = false) :
    (∃ g, RunsAt s set g (p + W) none (pre ++ [(a, p)])) ∧ pre ++ [(a, p)] <+: runsP s set := by
  obtain ⟨g, rfl, hg⟩ := runsAt_go h hp hd
  rw [runsGo, if_neg (by rw [hh]; exact Bool.false_ne_true)] at hg
  refine ⟨⟨g, by rw [← hg]; simp, by have := h.2.1; omega, hw.2, fun a ha => by cases ha⟩, ⟨_, by rw [← hg]; simp; rfl⟩⟩
theorem runsAt_end (h : RunsAt s set f p none pre) (hp : ¬ p < s.size) : pre = runsP s set := by
  have := h.1
  rw [runesGo_end (by omega), runsGo, List.append_nil] at this
  exact this
theorem runsAt_last {a : Nat} (h : RunsAt s set f p (some a) pre) (hp : ¬ p < s.size) : pre ++ [(a, s.size)] = runsP s set := by
  have := h.1
  rw [runesGo_end (by omega), runsGo] at this
  exact this
end
def encP (x : Nat × Nat) : Array Value := #[.int .i64 x.1, .int .i64 x.2]

/-- A piece of a text. -/
abbrev Span (s : ByteArray) := { x : Nat × Nat // x.1 < x.2 ∧ x.2 ≤ s.size }
theorem runsGo_bd {h : Int → Bool} {z : Nat} : ∀ (l : List (Nat × Nat × Nat)) (cur : Option Nat) (_ : ∀ x ∈ l, x.2.1 < x.2.2 ∧ x.2.2 ≤ z) (_ : ∀ a, cur = some a → a < z) (_ : ∀ a, cur = some a → ∀ x ∈ l, a < x.2.1) (_ : l.Pairwise fun x y => x.2.1 < y.2.1), ∀ y ∈ runsGo h z cur l, y.1 < y.2 ∧ y.2 ≤ z
  | [], none, _, _, _, _, y, hy => by simp [runsGo] at hy
  | [], some a, _, ha, _, _, y, hy => by
    simp [runsGo] at hy; subst hy; have := ha a rfl; simp only; omega
  | x :: l, none, hb, _, _, hp, y, hy => by
    have hb' : ∀ x ∈ l, x.2.1 < x.2.2 ∧ x.2.2 ≤ z := fun q hq => hb q (by simp [hq])
    have hx := hb x (by simp)
    have hp' := List.pairwise_cons.1 hp
    rw [runsGo] at hy
    split at hy
    · exact runsGo_bd l (some x.2.1) hb' (fun a ha => by cases ha; omega) (fun a ha q hq => by cases ha; exact hp'.1 q hq) hp'.2 y hy
    · exact runsGo_bd l none hb' (fun a ha => by cases ha) (fun a ha => by cases ha) hp'.2 y hy
  | x :: l, some a, hb, ha, hc, hp, y, hy => by
    have hb' : ∀ x ∈ l, x.2.1 < x.2.2 ∧ x.2.2 ≤ z := fun q hq => hb q (by simp [hq])
    have hx := hb x (by simp)
    have hp' := List.pairwise_cons.1 hp
    rw [runsGo] at hy
    split at hy
    · exact runsGo_bd l (some a) hb' ha (fun b hbb q hq => hc b hbb q (by simp [hq])) hp'.2 y hy
    · rcases List.mem_cons.1 hy with rfl | hy
      · have := hc a rfl x (by simp); simp only; omega
      · exact runsGo_bd l none hb' (fun a ha => by cases ha) (fun a ha => by cases ha) hp'.2 y hy
theorem runesGo_pair {s : ByteArray} : ∀ (f a : Nat), (runesGo s f a).Pairwise fun x y => x.2.1 < y.2.1
  | 0, a => by simp [runesGo]
  | f + 1, a => by
    rw [runesGo]
    split
    · rename_i hlt
      have hd := dec_bd s a hlt
      refine List.pairwise_cons.2 ⟨fun x hx => ?_, runesGo_pair f _⟩
      have := runesGo_bd f _ x hx
      simp only; omega
    · simp
theorem runsP_bd (s : ByteArray) (set : List (Int × Int)) : ∀ y ∈ runsP s set, y.1 < y.2 ∧ y.2 ≤ s.size :=
  runsGo_bd _ _ (fun x hx => by have := runesP_bd x hx; exact ⟨this.1, this.2.1⟩) (fun a ha => by cases ha) (fun a ha => by cases ha) (runesGo_pair _ _)
theorem runsGo_len {h : Int → Bool} {z : Nat} : ∀ (l : List (Nat × Nat × Nat)) (cur : Option Nat), (runsGo h z cur l).length ≤ l.length + 1
  | [], none => by simp [runsGo]
  | [], some a => by simp [runsGo]
  | x :: l, none => by
    rw [runsGo]; split
    · have := runsGo_len l (some x.2.1) (h := h) (z := z); simp only [List.length_cons]; omega
    · have := runsGo_len l none (h := h) (z := z); simp only [List.length_cons]; omega
  | x :: l, some a => by
    rw [runsGo]; split
    · have := runsGo_len l (some a) (h := h) (z := z); simp only [List.length_cons]; omega
    · have := runsGo_len l none (h := h) (z := z); simp only [List.length_cons]; omega
theorem runsP_len (s : ByteArray) (set : List (Int × Int)) : (runsP s set).length ≤ s.size + 1 := by
  have h1 := runsGo_len (h := hasB set) (z := s.size) (runesP s) none
  have h2 := runesP_len s
  unfold runsP; omega

/-- What the iterator's boxes hold. -/
def RunsIt (w : World) (s : ByteArray) (set : List (Int × Int)) (m bs bset : Nat) : Prop :=
  ∃ A na ca, w.cell? ⟨bs, 0, none⟩ = some (.string s) ∧ w.cell? ⟨bset, 0, none⟩ = some (.slice A na ca) ∧ Rd w 2 A (set.map encR) ∧ set.length = na ∧ na ≤ 4000000 ∧ m ≤ bs ∧ m ≤ bset ∧ ∀ a, A = some a → m ≤ a.block ∧ a.block < w.heap.size
theorem RunsIt.lt {w : World} {s : ByteArray} {set : List (Int × Int)} {m bs bset : Nat} (h : RunsIt w s set m bs bset) : m ≤ w.heap.size := by
  obtain ⟨A, na, ca, h1, _, _, _, _, h6, _⟩ := h
  have := cell_lt h1; simp at this; omega
theorem RunsIt.more {w : World} {s : ByteArray} {set : List (Int × Int)} {m m' bs bset : Nat} (h : RunsIt w s set m bs bset) (hm : m' ≤ m) : RunsIt w s set m' bs bset := by
  obtain ⟨A, na, ca, h1, h2, h3, h4, h5, h6, h7, h8⟩ := h
  exact ⟨A, na, ca, h1, h2, h3, h4, h5, by omega, by omega, fun a ha => ⟨by have := (h8 a ha).1; omega, (h8 a ha).2⟩⟩
theorem not_row {w : World} {row : Option Nat} {b : Nat} {o : Obj} (hb : w.heap[b]? = some o) (hc : o.isCells = true) (hr : ∀ r, row = some r → ∃ o : Obj, w.heap[r]? = some o ∧ o.isCells = false) : some b ≠ row := by
  rintro rfl
  obtain ⟨o', h1, h2⟩ := hr b rfl
  rw [hb] at h1; cases h1; rw [hc] at h2; cases h2
theorem Blk.kept {w w' : World} {row : Option Nat} {g : Nat} {t : TypeId} {cs : Array Value} (h : Blk w g t cs) (hg : w.grownBy w' row) (hr : ∀ r, row = some r → ∃ o : Obj, w.heap[r]? = some o ∧ o.isCells = false) : Blk w' g t cs := h.grown hg (not_row h rfl hr)
theorem RunsIt.mid {w w' : World} {s : ByteArray} {set : List (Int × Int)} {m bs bset : Nat} (h : RunsIt w s set m bs bset) (hb : Mid m w.heap.size w w') : RunsIt w' s set m bs bset := by
  obtain ⟨A, na, ca, h1, h2, h3, h4, h5, h6, h7, h8⟩ := h
  exact ⟨A, na, ca, hb.cell h1 h6 (cell_lt h1), hb.cell h2 h7 (cell_lt h2), h3.mid hb h8, h4, h5, h6, h7, fun a ha => ⟨(h8 a ha).1, Nat.lt_of_lt_of_le (h8 a ha).2 hb.size⟩⟩
theorem RunsIt.below {w w' : World} {s : ByteArray} {set : List (Int × Int)} {m bs bset : Nat} (h : RunsIt w s set m bs bset) (hb : RowKit.Below w.heap.size w w') : RunsIt w' s set m bs bset := h.mid (Mid.of_below hb (Nat.le_refl _))
end Go.Proofs.YtlbfbkdcjdeagaaGreatDoor

/-
  utf.Each: the iterator over the runes of a text.
-/
namespace Go.Proofs.YtlbfbkdcjdeagaaGreatDoor
open Go.RowKit Go.Shelf
attribute [local go_sem] Oper.semAt_some

/-- A rune's place and the rune, as utf.Each gives them. -/
def encU (x : Nat × Nat × Nat) : Array Value := #[.int .i64 (x.2.1 : Nat), .int .i32 (x.1 : Nat)]
/-- How far the runes have come. -/
def UAt (s : ByteArray) (f p : Nat) (pre : List (Nat × Nat × Nat)) : Prop := pre ++ runesGo s f p = runesP s ∧ s.size ≤ p + f ∧ p ≤ s.size
theorem uAt_first (s : ByteArray) : UAt s s.size 0 [] := ⟨rfl, by omega, by omega⟩
theorem uAt_next {s : ByteArray} {f p R W : Nat} {pre : List (Nat × Nat × Nat)} (h : UAt s f p pre) (hp : p < s.size) (hd : Utf8.decode s p = (R, W)) (hw : 1 ≤ W ∧ p + W ≤ s.size) : ∃ g, UAt s g (p + W) (pre ++ [(R, p, p + W)]) := by
  obtain ⟨g, rfl, hg⟩ := runesGo_step (s := s) (f := f) hp h.2.1
  rw [hd] at hg
  exact ⟨g, by rw [← h.1, hg]; simp, by have := h.2.1; omega, hw.2⟩
theorem uAt_pre {s : ByteArray} {f p : Nat} {pre : List (Nat × Nat × Nat)} (h : UAt s f p pre) : pre <+: runesP s := ⟨_, h.1⟩
theorem uAt_end {s : ByteArray} {f p : Nat} {pre : List (Nat × Nat × Nat)} (h : UAt s f p pre) (hp : ¬ p < s.size) : pre = runesP s := by
  have := h.1
  rw [runesGo_end (by omega), List.append_nil] at this
  exact this
set_option maxRecDepth 100000 in
theorem uEach_any (s : ByteArray) (w : World) : Calls Tryz.prog 78 #[.string s] w fun e w' => ∃ bs, e = .returned (.func (.func 115) #[] #[.pointer (some ⟨bs, 0, none⟩)]) ∧ w'.cell? ⟨bs, 0, none⟩ = some (.string s) ∧ RowKit.Below w.heap.size w w' := by
  have hmf : ∀ (fn : Fn) (first cap : Array Value) (w : World), (Instr.makeFunc fn first cap).run Tryz.prog w = .ok (.func fn first cap) w := fun _ _ _ _ => rfl
  go_enter Tryz.func78, Tryz.ntmps78
  go_wp2
  go_ret
  exact ⟨_, rfl, (Blk.new w 9 #[.string s]).cell 0, (RowKit.Below.refl _ _).alloc (Nat.le_refl _) _⟩
set_option maxRecDepth 100000 in
set_option maxHeartbeats 1000000 in
theorem uEach_stops (n : Nat) (hn : 1 ≤ n) (w : World) (s : ByteArray) (bs : Nat) (h : w.cell? ⟨bs, 0, none⟩ = some (.string s)) :
    SeqStopsK Fence.wide n Tryz.prog 115 #[.pointer (some ⟨bs, 0, none⟩)] encU KeepsWalks (fun ys => ys = runesP s) (fun pre => pre <+: runesP s) (runesP s).length w := by
  intro l J Jx W hW hJ _ hY h0
  have hc1 : W.cell? ⟨bs, 0, none⟩ = some (.string s) := cell_keep h hW
  refine callsIn_of_wp Tryz.func115 rfl trivial ?_ rfl
  simp only [Tryz.ntmps115, List.size_toArray, List.length_cons, List.length_nil, Nat.reduceAdd, Nat.reduceSub, Array.replicate_succ, Array.replicate_zero, List.push_toArray, List.append_toArray, List.nil_append, List.cons_append]
  gi_wp2
  gi_loopw [3] (fun _ wr => ∃ (f p : Nat) (pre : List (Nat × Nat × Nat)), Hid (UAt s f p pre) ∧ J pre wr ∧ wr.heap[W.heap.size]? = some (.stringIter s p))
    (fun _ wr => s.size - wr.iterPos W.heap.size)
  case atStart => exact ⟨s.size, 0, [], uAt_first s, abides_below hJ h0 (below_iter (RowKit.Below.refl _ _) (Nat.le_refl _) _ _), iter_new _ _ _⟩
  case round =>
    obtain ⟨f, p, pre, HA, hJs, hit⟩ := hrel
    have Hpos := Lib.hid (iterPos_of hit)
    by_cases hp : p < s.size
    · obtain ⟨⟨R, Wd⟩, hD0⟩ : ∃ d, Utf8.decode s p = d := ⟨_, rfl⟩
      have hd := dec_bd s p hp
      have hnx : ∀ ty, (Instr.next (.pointer (some ⟨W.heap.size, 0, none⟩)) true ty).run Tryz.prog wr = _ := fun ty => Lib.run_next_any_at wr W.heap.size s p ty hit hp
      have hit2 := Lib.iterAt_heap wr W.heap.size s p (p + (Utf8.decode s p).2) hit
      have hJ2 := abides_iterAt hJ hJs hit (Nat.le_refl _) (p + (Utf8.decode s p).2)
      rw [hD0] at hd hnx hit2 hJ2
      simp only at hd hnx hit2 hJ2
      obtain ⟨g, hg⟩ := uAt_next HA.out hp hD0 ⟨hd.1, hd.2.2.1⟩
      have Hg := Lib.hid hg
      have hlen : pre.length < (runesP s).length := by have := (uAt_pre hg).length_le; rw [List.length_append, List.length_singleton] at this; omega
      clear hD0 hg
      generalize wr.iterAt W.heap.size s (p + Wd) = wi at hnx hit2 hJ2
      clear hJs hit
      obtain ⟨fn, tmps, assign, body, hy, hR⟩ := hY pre (R, p, p + Wd) wi hJ2 hlen
      dsimp only [encU] at hy
      gi_wp2_with fail
      refine hR.mono ?_
      rintro e w4 (⟨rfl, hJ4, hk4⟩ | ⟨rfl, hJx4⟩)
      · have hit4 := hk4.same _ _ hit2 rfl
        gi_wp2_with fail
        go_roundw
        case rel => exact ⟨g, p + Wd, pre ++ [(R, p, p + Wd)], Hg, hJ4, hit4⟩
        case measure => rw [iterPos_of hit4, Hpos.out]; omega
      · gi_wp2
        refine bodyPost_ret (results_none rfl _ _ _) rfl ?_
        exact ⟨⟨_, rfl⟩, .inr ⟨_, uAt_pre Hg.out, hJx4⟩⟩
    · have hnx : ∀ ty, (Instr.next (.pointer (some ⟨W.heap.size, 0, none⟩)) true ty).run Tryz.prog wr = _ := fun ty => Lib.run_next_end_at wr W.heap.size s p ty hit hp
      have HE := Lib.hid (uAt_end HA.out hp)
      gi_wp2
      go_end0
      exact ⟨⟨_, rfl⟩, .inl ⟨_, HE.out, hJs⟩⟩
end Go.Proofs.YtlbfbkdcjdeagaaGreatDoor

/-
  Ranges over a function: the two laws of Derived.RangeFuncNested where the assign code only sets slots: the frame that the body begins with is said by what it does to the loop's frame.
-/
namespace Go.Proofs.YtlbfbkdcjdeagaaGreatDoor
open Go.RowKit

section
variable {P : Program} {F : Fence} {n : Nat}
theorem rngH {α : Type} {g : Operand} {ps : Array Tmp} {assign body : Code} {Q : Exit → Act → World → Prop} {a : Act} {w : World}
    (hro : F.round = none) (h1 : 1 ≤ n) {gf : Nat} {lb : Array Value} (hg : a.eval g = .func (.func gf) #[] lb) (hFg : F.fn gf) (eg : ∀ args w, (callFunc gf args).run P w = .ok (.enter gf args) w)
    {encs : α → Array Value} {Kp : World → World → Prop} {S Sp : List α → Prop} {N : Nat} {w0 : World} (hseq : SeqStopsK F (n - 1) P gf lb encs Kp S Sp N w0)
    (hKt : ∀ {A B C : World}, Kp A B → Kp B C → Kp A C) (hKb : ∀ (W : World) (l : Nat) (o o' : Obj), w.heap.size ≤ l → W.heap[l]? = some o → o.isCells = false → o.isWalk = false → Kp W (W.putObj l o')) (hb0 : Below w0.heap.size w0 w) (hps : ∀ x, (encs x).size = ps.size) (hKr : ∀ W, Kp W W)
    (I : List α → World → Prop) (Ix : Code → List α → World → Prop) (hI : OwnFrom w.heap.size I) (hIx : ∀ c, OwnFrom w.heap.size (Ix c)) (h0 : I [] w) (f : Array Value → α → Array Value)
    (hassign : ∀ (l : Nat) (x : α) (W : World) (K : Act → World → Prop), K { tmps := f a.tmps x, defers := [] } W →
      assign.wpIn (F.inRound l) (n - 1 - 1) P (Exit.then K (fun _ _ _ => False)) { tmps := (ps.zip (encs x)).foldl (fun t (p, v) => t.setIfInBounds p v) a.tmps, defers := [] } W)
    (hbody : ∀ (l : Nat) (pre : List α) (x : α) (W : World), w.heap.size ≤ l → (∃ r, W.heap[l]? = some (.loop r)) → I pre W → pre.length < N → body.wpIn (F.inRound l) (n - 1 - 1) P (ownPostG w.heap.size Kp I Ix (pre ++ [x]) W) { tmps := f a.tmps x, defers := [] } W)
    (hdone : ∀ (D : Nat) (xs : List α) (W : World), w.heap.size ≤ D → S xs → I xs W → W.heap[D]? = some (.deferred (some [])) → Q .normal { a with defers := { target := .collected D, args := #[] } :: a.defers } W)
    (hstop : ∀ (D : Nat) (c : Code) (pre : List α) (W : World), w.heap.size ≤ D → Sp pre → Ix c pre W → W.heap[D]? = some (.deferred (some [])) → c.wpIn F n P Q { a with defers := { target := .collected D, args := #[] } :: a.defers } W) :
    (Code.rangeFunc g ps assign body).wpIn F n P Q a w :=
  wpIn_rangeFunc_ownH hro h1 hg hFg eg hseq (fun h k => hKt h k) hKb hb0 hps I Ix hI hIx h0 (fun x a' _ => a' = { tmps := f a.tmps x, defers := [] }) (fun _ _ _ _ _ _ hs _ _ => hs)
    (fun l _ x W K hi hK => hassign l x W K (hK _ _ (KeepsFrom.refl _ _) (hKr W) hi rfl)) (fun l pre x a' W hl hr hi e => by subst e; exact hbody l pre x W hl hr hi) hdone hstop
theorem rngN {α : Type} {g : Operand} {ps : Array Tmp} {assign body : Code} {Q : Exit → Act → World → Prop} {a : Act} {w : World}
    {l₀ : Nat} {r₀ : Loop} (hro : F.round = some l₀) (hl₀ : w.heap[l₀]? = some (.loop r₀)) (h1 : 1 ≤ n) {gf : Nat} {lb : Array Value} (hg : a.eval g = .func (.func gf) #[] lb) (hFg : F.fn gf) (eg : ∀ args w, (callFunc gf args).run P w = .ok (.enter gf args) w)
    {encs : α → Array Value} {Kp : World → World → Prop} {S Sp : List α → Prop} {N : Nat} {w0 : World} (hseq : SeqStopsK F (n - 1) P gf lb encs Kp S Sp N w0)
    (hKt : ∀ {A B C : World}, Kp A B → Kp B C → Kp A C) (hKb : ∀ (W : World) (l : Nat) (o o' : Obj), w.heap.size ≤ l → W.heap[l]? = some o → o.isCells = false → o.isWalk = false → Kp W (W.putObj l o')) (hb0 : Below w0.heap.size w0 w) (hps : ∀ x, (encs x).size = ps.size) (hKr : ∀ W, Kp W W)
    (I : List α → World → Prop) (Ix : Code → List α → World → Prop) (hI : OwnFrom w.heap.size I) (hIx : ∀ c, OwnFrom w.heap.size (Ix c)) (h0 : I [] w) (f : Array Value → α → Array Value)
    (hassign : ∀ (l : Nat) (x : α) (W : World) (K : Act → World → Prop), K { tmps := f a.tmps x, defers := [] } W →
      assign.wpIn (F.inRound l) (n - 1 - 1) P (Exit.then K (fun _ _ _ => False)) { tmps := (ps.zip (encs x)).foldl (fun t (p, v) => t.setIfInBounds p v) a.tmps, defers := [] } W)
    (hbody : ∀ (l : Nat) (pre : List α) (x : α) (W : World), w.heap.size ≤ l → (∃ r, W.heap[l]? = some (.loop r)) → I pre W → pre.length < N → body.wpIn (F.inRound l) (n - 1 - 1) P (ownPostG w.heap.size Kp I Ix (pre ++ [x]) W) { tmps := f a.tmps x, defers := [] } W)
    (hdone : ∀ (xs : List α) (W : World), S xs → I xs W → Q .normal a W)
    (hstop : ∀ (c : Code) (pre : List α) (W : World), Sp pre → Ix c pre W → c.wpIn F n P Q a W) :
    (Code.rangeFunc g ps assign body).wpIn F n P Q a w :=
  wpIn_rangeFunc_ownN hro hl₀ h1 hg hFg eg hseq (fun h k => hKt h k) hKb hb0 hps I Ix hI hIx h0 (fun x a' _ => a' = { tmps := f a.tmps x, defers := [] }) (fun _ _ _ _ _ _ hs _ _ => hs)
    (fun l _ x W K hi hK => hassign l x W K (hK _ _ (KeepsFrom.refl _ _) (hKr W) hi rfl)) (fun l pre x a' W hl hr hi e => by subst e; exact hbody l pre x W hl hr hi) hdone hstop
end
end Go.Proofs.YtlbfbkdcjdeagaaGreatDoor

/-
  WORDS FOR MEMORY, STILL MORE: append onto a row of the call's own, inside a fence.
-/
namespace Go.Proofs.YtlbfbkdcjdeagaaGreatDoor
open Go.RowKit

section
variable {P : Program}
theorem run_app {w : World} (t ty : TypeId)
    (base : Nat) (e : TypeId) (i : TypeInfo) (z : Value) (size bytes : Nat) (ht : P.underlying t = some (.slice e)) (hi : P.info? e = some i) (hz : i.zero = some z)
    (hsize : i.size = size) (hby : i.bytes = bytes) (hzs : z.cells.size = size) (hsz : 0 < size)
    (A : Option Addr) (n c : Nat) (cs : List (List Value)) (hown : Own w base e size A n c cs)
    (A2 : Option Addr) (m c2 : Nat) (xs : List (List Value)) (hm : xs.length = m) (hr : Rd w size A2 xs) (h1 : ∀ y ∈ xs, y.length = size ∧ ∀ u ∈ y, u.oneCell' = true)
    (h63 : n + m ≤ maxLen) (hbytes : (n + m) * bytes ≤ 140737488355328) (hbase : base ≤ w.heap.size) :
    ∃ A' c' w', (Builtin.append_ #[t, t] ty #[.slice A n c, .slice A2 m c2]).run P w = .ok (.slice A' (n + m) c') w' ∧ Own w' base e size A' (n + m) c' (cs ++ xs) ∧ w.grownBy w' (A.map (·.block)) ∧ (A' = A ∨ A' = some ⟨w.heap.size, 0, none⟩) := by
  have hxl : ∀ y ∈ xs, y.length = size := fun y hy => (h1 y hy).1
  have hall : ∀ y ∈ cs ++ xs, y.length = size := fun y hy => by
    rcases List.mem_append.1 hy with hy | hy
    · exact hown.2.1 y hy
    · exact hxl y hy
  have hob : (Value.slice A n c).ownBlock = A.map (·.block) := by cases A <;> rfl
  have key : ∃ v' w', (Builtin.append_ #[t, t] ty #[.slice A n c, .slice A2 m c2]).run P w = .ok v' w' ∧ w'.ownsRow base e size v' (n + m) (cs.flatten ++ xs.flatten) ∧ w.grownBy w' (Value.slice A n c).ownBlock ∧
      (v'.ownBlock = (Value.slice A n c).ownBlock ∨ v'.ownBlock = some w.heap.size) := by
    cases A2 with
    | none =>
      have hnil : xs = [] := Classical.byContradiction fun hne => by obtain ⟨b, off, hb, _⟩ := hr hne; cases hb
      subst hnil
      subst hm
      refine ⟨.slice A n c, w, ?_, by simpa using hown.2.2, World.grownBy.refl w _, .inl rfl⟩
      rcases hown.2.2.2 with ⟨h0, rfl⟩ | ⟨g, cap, cur, h0, _, _, hnc, _⟩
      · rw [h0]; simp [Builtin.append_, run_underlying ht, sizeOf, typeInfo, hi, Builtin.lenOf, Builtin.firstCells]
      · injection h0 with hA _ hc
        subst hA; subst hc
        simp [Builtin.append_, run_underlying ht, sizeOf, typeInfo, hi, Builtin.lenOf, Builtin.firstCells, hnc, storeCells]
    | some ad =>
      have hcells : ∀ j u, xs.flatten[j]? = some u → w.cell? (ad.add j) = some u := by
        intro j u hu
        obtain ⟨k, r, y, rfl, h2, h3⟩ := flatten_at hxl hu
        have hne : xs ≠ [] := fun e => by subst e; simp at h2
        obtain ⟨b, off, hb, hc⟩ := hr hne
        injection hb with hb
        subst hb
        have := hc k r y u h2 h3
        unfold Addr.add
        split
        · rename_i h0; rw [show off + k * size + r = off by omega] at this; exact this
        · simpa [Nat.add_assoc] using this
      obtain ⟨v', w', hrun, h2, h3, _, h5⟩ := run_append_own_at (P := P) w base t ty e i z size bytes ht hi hz hsize hby hzs hsz (.slice A n c) n cs.flatten hown.2.2 ad m c2 xs.flatten
        (by rw [flatten_len hxl, hm]) hcells (fun u hu => by obtain ⟨y, hy, hu⟩ := List.mem_flatten.1 hu; exact (h1 y hy).2 u hu) h63 hbytes hbase
      exact ⟨v', w', hrun, h2, h3, h5⟩
  obtain ⟨v', w', hrun, h2, h3, h4⟩ := key
  rw [hob] at h3 h4
  have hv : ∃ A' c', v' = .slice A' (n + m) c' ∧ (A' = A ∨ A' = some ⟨w.heap.size, 0, none⟩) := by
    rcases h2.2 with ⟨rfl, h0⟩ | ⟨g, cap, cur, rfl, _⟩
    · refine ⟨none, 0, by rw [h0], .inl ?_⟩
      rcases hown.2.2.2 with ⟨h9, _⟩ | ⟨g', cap', cur', h9, _⟩
      · injection h9 with h9; exact h9.symm
      · injection h9 with h9
        rcases h4 with h4 | h4 <;> simp [Value.ownBlock, h9] at h4
    · refine ⟨_, _, rfl, ?_⟩
      rcases h4 with h4 | h4
      · left
        rcases hown.2.2.2 with ⟨h9, _⟩ | ⟨g', cap', cur', h9, _⟩
        · injection h9 with h9; subst h9; simp [Value.ownBlock] at h4
        · injection h9 with h9; subst h9; simp [Value.ownBlock] at h4; rw [h4]
      · right; simp [Value.ownBlock] at h4; rw [h4]
  obtain ⟨A', c', rfl, hA'⟩ := hv
  exact ⟨A', c', w', hrun, ⟨by rw [List.length_append, hown.1, hm], hall, by rw [List.flatten_append]; exact h2⟩, h3, hA'⟩

theorem wpListIn_app {F : Fence} {nF : Nat} {ops : Array Oper} {rest : List Oper} {o : Oper} {a : Act} {w : World} {Q : Exit → Act → World → Prop} (hgd : o.guard = none) (s x : Operand) (t : TypeId)
    (ho : o.op = .call { callee := .builtin .append, args := #[s, x], argTypes := #[t, t] })
    (base : Nat) (e : TypeId) (i : TypeInfo) (z : Value) (size bytes : Nat) (ht : P.underlying t = some (.slice e)) (hi : P.info? e = some i) (hz : i.zero = some z)
    (hsize : i.size = size) (hby : i.bytes = bytes) (hzs : z.cells.size = size) (hsz : 0 < size)
    (A : Option Addr) (n c : Nat) (cs : List (List Value)) (hs : a.eval s = .slice A n c) (hown : Own w base e size A n c cs)
    (A2 : Option Addr) (m c2 : Nat) (xs : List (List Value)) (hx : a.eval x = .slice A2 m c2) (hm : xs.length = m) (hr : Rd w size A2 xs) (h1 : ∀ y ∈ xs, y.length = size ∧ ∀ u ∈ y, u.oneCell' = true)
    (h63 : n + m ≤ maxLen) (hbytes : (n + m) * bytes ≤ 140737488355328) (hbase : base ≤ w.heap.size)
    (h : ∀ A' c' w', Own w' base e size A' (n + m) c' (cs ++ xs) → w.grownBy w' (A.map (·.block)) → (A' = A ∨ A' = some ⟨w.heap.size, 0, none⟩) → wpListIn F nF P ops Q rest (a.put o.dst (.slice A' (n + m) c')) w') : wpListIn F nF P ops Q (o :: rest) a w := by
  refine wpListIn_plain hgd fun K hK' => ?_
  obtain ⟨A', c', w', hrun, r1, r2, r3⟩ := run_app (P := P) t o.type base e i z size bytes ht hi hz hsize hby hzs hsz A n c cs hown A2 m c2 xs hm hr h1 h63 hbytes hbase
  unfold Oper.wpIn
  refine ⟨?_, ?_⟩
  · simp [Oper.about, ho, resolve, Target.leads, Sem.run_pure]
  · rw [Oper.semAt_plain F _ _ (by rw [ho]; intro c hc'; cases hc')]
    simp [execOp, ho, resolve, invoke, builtin, hs, hx, hrun, Result.andThen]
    exact hK' _ _ (h A' c' w' r1 r2 r3)
end
end Go.Proofs.YtlbfbkdcjdeagaaGreatDoor

/-
  Ranges over an iterator that itself ranges over another one: its own loop's record turns in every round, so its contract asks more of what is carried (OwnFrom: whatever is no cells, from the loop's first block on, may be turned). The law for the statement, ahead of a round and within one.
-/
namespace Go.Proofs.YtlbfbkdcjdeagaaGreatDoor
open Go.RowKit

section
variable {P : Program} {F : Fence} {n : Nat} {α : Type}
/-- An iterator's contract, where what is carried abides every turn of what is no cells. -/
def SeqC (F : Fence) (n : Nat) (P : Program) (g : Nat) (lb : Array Value) (encs : α → Array Value) (Kp : World → World → Prop) (S Sp : List α → Prop) (N : Nat) (w : World) : Prop :=
  ∀ (l : Nat) (J Jx : List α → World → Prop) (W : World), Below w.heap.size w W → OwnFrom W.heap.size J → OwnFrom W.heap.size Jx →
    (∀ pre x W1, J pre W1 → pre.length < N → YieldAt F (n - 1) P l (encs x) W1 fun e W' => (e = .returned (.bool true) ∧ J (pre ++ [x]) W' ∧ Kp W1 W' ∧ KeepsFrom W.heap.size W1 W') ∨ (e = .returned (.bool false) ∧ Jx (pre ++ [x]) W' ∧ KeepsFrom W.heap.size W1 W')) →
    J [] W → CallsIn F n P g (#[.func (.yield l) #[] #[]] ++ lb) W fun e W' => (∃ v, e = .returned v) ∧ ((∃ xs, S xs ∧ J xs W') ∨ (∃ pre, Sp pre ∧ Jx pre W'))
theorem SeqC.inRound {g : Nat} {lb : Array Value} {encs : α → Array Value} {Kp : World → World → Prop} {S Sp : List α → Prop} {N : Nat} {w : World} (l : Nat) (h : SeqC F n P g lb encs Kp S Sp N w) : SeqC (F.inRound l) n P g lb encs Kp S Sp N w := h

/-- A loop's record. -/
def recC (fn : FuncId) (tmps : Array Value) (ps : Array Tmp) (assign body : Code) (d : Nat) (st : LoopState) (pe : Option Code) : Loop := { state := st, pending := pe, fn, tmps, params := ps, assign, body, defers := d }
/-- What no round turns but the loop's own record. -/
structure StaysC (B l : Nat) (W W' : World) : Prop where
  size : W.heap.size ≤ W'.heap.size
  same : ∀ (k : Nat) (o : Obj), B ≤ k → k ≠ l → W.heap[k]? = some o → o.isCells = false → W'.heap[k]? = some o

variable {encs : α → Array Value} {Kp : World → World → Prop} {I : List α → World → Prop} {Ix : Code → List α → World → Prop} {ps : Array Tmp} {assign body : Code}
/-- One round, from yield's call to its answer. -/
theorem yieldC {fn : FuncId} {tmps : Array Value} {d l B m : Nat} {pre : List α} {x : α} {W : World} {a' : Act} (hfn : F.fn fn) (hps : (encs x).size = ps.size) (hB : B ≤ l)
    (hKt : ∀ {A B C : World}, Kp A B → Kp B C → Kp A C) (hKb : ∀ (W : World) (l : Nat) (o o' : Obj), B ≤ l → W.heap[l]? = some o → o.isCells = false → o.isWalk = false → Kp W (W.putObj l o'))
    (hI : OwnFrom B I) (hIx : ∀ c, OwnFrom B (Ix c)) (hi : I pre W) (hl : W.heap[l]? = some (.loop (recC fn tmps ps assign body d .ready none)))
    (hassign : ∀ K : Act → World → Prop, K a' W → assign.wpIn (F.inRound l) m P (Exit.then K (fun _ _ _ => False)) { tmps := (ps.zip (encs x)).foldl (fun t (p, v) => t.setIfInBounds p v) tmps, defers := [] } W)
    (hbody : ∀ W', (∃ r, W'.heap[l]? = some (.loop r)) → I pre W' → body.wpIn (F.inRound l) m P (ownPostG B Kp I Ix (pre ++ [x]) W') a' W') :
    YieldAt F m P l (encs x) W fun e W' =>
      (e = .returned (.bool true) ∧ (I (pre ++ [x]) W' ∧ W'.heap[l]? = some (.loop (recC fn tmps ps assign body d .ready none)) ∧ StaysC B l W W') ∧ Kp W W') ∨
      (e = .returned (.bool false) ∧ ∃ c, Ix c (pre ++ [x]) W' ∧ W'.heap[l]? = some (.loop (recC fn tmps ps assign body d .done (some c))) ∧ StaysC B l W W') := by
  refine ⟨fn, _, assign, body, run_yield (P := P) (args := encs x) hl hps, roundIn_of_wpIn hfn (hassign _ ?_)⟩
  have hlt := (Array.getElem?_eq_some_iff.1 hl).1
  refine ⟨_, run_beginRound hl rfl, ?_⟩
  have hl2 : (W.putObj l (.loop { recC fn tmps ps assign body d .ready none with state := .busy })).heap[l]? = some (.loop { recC fn tmps ps assign body d .ready none with state := .busy }) := World.putObj_heap_same hlt
  have hk2 : Kp W (W.putObj l (.loop { recC fn tmps ps assign body d .ready none with state := .busy })) := hKb _ _ _ _ hB hl rfl rfl
  refine wpIn_mono (hbody _ ⟨_, hl2⟩ (hI.putObj _ hi hB hl rfl)) ?_
  -- the round's end, whichever way it is left
  have last : ∀ (jump : Option Code) (W3 : World), KeepsFrom B (W.putObj l (.loop { recC fn tmps ps assign body d .ready none with state := .busy })) W3 →
      ∃ W4, (Instr.endRound l jump).run P W3 = .ok (.bool jump.isNone) W4 ∧ W4.heap[l]? = some (.loop (recC fn tmps ps assign body d (if jump.isNone then .ready else .done) jump)) ∧ StaysC B l W W4 ∧
        (∀ Y : World → Prop, (∀ (o o' : Obj), W3.heap[l]? = some o → o.isCells = false → o.isWalk = false → Y (W3.putObj l o')) → Y W4) := fun jump W3 hk => by
    have hl3 := hk.same _ _ hB hl2 rfl
    refine ⟨_, run_endRound (P := P) jump hl3, World.putObj_heap_same (Array.getElem?_eq_some_iff.1 hl3).1, ⟨by have := hk.size; simpa using this, fun k o hBk hne ho hc => ?_⟩, fun Y hY => hY _ _ hl3 rfl rfl⟩
    exact (World.putObj_heap_other hne).trans (hk.same k o hBk ((World.putObj_heap_other hne).trans ho) hc)
  rintro e a3 W3 hp
  cases e with
  | normal =>
    obtain ⟨hk, hkp, hi3⟩ := hp
    obtain ⟨W4, hr, h4, hs, hY⟩ := last none W3 hk
    exact ⟨_, _, hr, .inl ⟨rfl, ⟨hY (fun W => I (pre ++ [x]) W) (fun o o' ho hc _ => hI.putObj o' hi3 hB ho hc), h4, hs⟩, hKt (hKt hk2 hkp) (hY (Kp W3) (fun o o' ho hc hw => hKb W3 l o o' hB ho hc hw))⟩⟩
  | ret =>
    obtain ⟨hk, hi3⟩ := hp
    obtain ⟨W4, hr, h4, hs, hY⟩ := last (some .ret) W3 hk
    exact ⟨_, _, hr, .inr ⟨rfl, _, hY (fun W => Ix .ret (pre ++ [x]) W) (fun o o' ho hc _ => (hIx _).putObj o' hi3 hB ho hc), h4, hs⟩⟩
  | exit id =>
    obtain ⟨hk, hi3⟩ := hp
    obtain ⟨W4, hr, h4, hs, hY⟩ := last (some (.exit id)) W3 hk
    exact ⟨_, _, hr, .inr ⟨rfl, _, hY (fun W => Ix (.exit id) (pre ++ [x]) W) (fun o o' ho hc _ => (hIx _).putObj o' hi3 hB ho hc), h4, hs⟩⟩
  | goto t =>
    obtain ⟨hk, hi3⟩ := hp
    obtain ⟨W4, hr, h4, hs, hY⟩ := last (some (.goto t)) W3 hk
    exact ⟨_, _, hr, .inr ⟨rfl, _, hY (fun W => Ix (.goto t) (pre ++ [x]) W) (fun o o' ho hc _ => (hIx _).putObj o' hi3 hB ho hc), h4, hs⟩⟩
  | panic ch => exact hp.elim
  | outgrown => exact hp.elim

/-- What lies ahead of the loop's blocks' end stays where only later blocks turn. -/
theorem grown_later {A B : World} {row : Option Nat} {W1 : World} (hg : A.grownBy B row) (hr : ∀ r, row = some r → W1.heap.size ≤ r ∧ ∃ o : Obj, A.heap[r]? = some o ∧ o.isCells = false) {k : Nat} {o : Obj} (hk : k < W1.heap.size) (ho : A.heap[k]? = some o) : B.heap[k]? = some o :=
  (hg.block k (Array.getElem?_eq_some_iff.1 ho).1 (fun e => by have := (hr k e.symm).1; omega)).trans ho
theorem own_later {β : Type} {B : Nat} {I : β → World → Prop} (h : OwnFrom B I) {C : Nat} (hBC : B ≤ C) : OwnFrom C I := fun s X Y row hs hg hr => h s X Y row hs hg (fun r e => ⟨Nat.le_trans hBC (hr r e).1, (hr r e).2⟩)

variable {g : Operand} {Q : Exit → Act → World → Prop} {a : Act} {w : World}
theorem rngC (hro : F.round = none) (h1 : 1 ≤ n) {gf : Nat} {lb : Array Value} (hg : a.eval g = .func (.func gf) #[] lb) (hFg : F.fn gf) (eg : ∀ args w, (callFunc gf args).run P w = .ok (.enter gf args) w)
    {S Sp : List α → Prop} {N : Nat} {w0 : World} (hseq : SeqC F (n - 1) P gf lb encs Kp S Sp N w0)
    (hKt : ∀ {A B C : World}, Kp A B → Kp B C → Kp A C) (hKb : ∀ (W : World) (l : Nat) (o o' : Obj), w.heap.size ≤ l → W.heap[l]? = some o → o.isCells = false → o.isWalk = false → Kp W (W.putObj l o')) (hb0 : Below w0.heap.size w0 w) (hps : ∀ x, (encs x).size = ps.size)
    (I : List α → World → Prop) (Ix : Code → List α → World → Prop) (hI : OwnFrom w.heap.size I) (hIx : ∀ c, OwnFrom w.heap.size (Ix c)) (h0 : I [] w) (f : Array Value → α → Array Value)
    (hassign : ∀ (l : Nat) (x : α) (W : World) (K : Act → World → Prop), K { tmps := f a.tmps x, defers := [] } W →
      assign.wpIn (F.inRound l) (n - 1 - 1) P (Exit.then K (fun _ _ _ => False)) { tmps := (ps.zip (encs x)).foldl (fun t (p, v) => t.setIfInBounds p v) a.tmps, defers := [] } W)
    (hbody : ∀ (l : Nat) (pre : List α) (x : α) (W : World), w.heap.size ≤ l → (∃ r, W.heap[l]? = some (.loop r)) → I pre W → pre.length < N → body.wpIn (F.inRound l) (n - 1 - 1) P (ownPostG w.heap.size Kp I Ix (pre ++ [x]) W) { tmps := f a.tmps x, defers := [] } W)
    (hdone : ∀ (D : Nat) (xs : List α) (W : World), w.heap.size ≤ D → S xs → I xs W → W.heap[D]? = some (.deferred (some [])) → Q .normal { a with defers := { target := .collected D, args := #[] } :: a.defers } W)
    (hstop : ∀ (D : Nat) (c : Code) (pre : List α) (W : World), w.heap.size ≤ D → Sp pre → Ix c pre W → W.heap[D]? = some (.deferred (some [])) → c.wpIn F n P Q { a with defers := { target := .collected D, args := #[] } :: a.defers } W) :
    (Code.rangeFunc g ps assign body).wpIn F n P Q a w := by
  refine wpIn_rangeFunc (fun fn hfn => ?_)
  rw [hro]
  have z1 : (w.alloc (.deferred (some []))).heap.size = w.heap.size + 1 := by simp
  have hL : ((w.alloc (.deferred (some []))).alloc (.loop (recC fn a.tmps ps assign body w.heap.size .ready none))).heap[w.heap.size + 1]? = some (.loop (recC fn a.tmps ps assign body w.heap.size .ready none)) := by
    have := World.alloc_heap_new (w.alloc (.deferred (some []))) (.loop (recC fn a.tmps ps assign body w.heap.size .ready none)); rwa [z1] at this
  have hD : ((w.alloc (.deferred (some []))).alloc (.loop (recC fn a.tmps ps assign body w.heap.size .ready none))).heap[w.heap.size]? = some (.deferred (some [])) := (Below.heap_alloc _ _ _ (by simp)).trans (World.alloc_heap_new w _)
  have hz : ((w.alloc (.deferred (some []))).alloc (.loop (recC fn a.tmps ps assign body w.heap.size .ready none))).heap.size = w.heap.size + 2 := by simp
  have hi : I [] ((w.alloc (.deferred (some []))).alloc (.loop (recC fn a.tmps ps assign body w.heap.size .ready none))) := hI.alloc _ (hI.alloc _ h0)
  have hb1 : Below w0.heap.size w0 ((w.alloc (.deferred (some []))).alloc (.loop (recC fn a.tmps ps assign body w.heap.size .ready none))) := (hb0.alloc hb0.size _).alloc (by simp; have := hb0.size; omega) _
  refine ⟨w.heap.size + 1, [{ target := .collected w.heap.size, args := #[] }], (w.alloc (.deferred (some []))).alloc (.loop (recC fn a.tmps ps assign body w.heap.size .ready none)), { target := .fn (.func gf) lb, args := #[.func (.yield (w.heap.size + 1)) #[] #[]] },
    (w.alloc (.deferred (some []))).alloc (.loop (recC fn a.tmps ps assign body w.heap.size .ready none)), gf, #[.func (.yield (w.heap.size + 1)) #[] #[]] ++ lb, (w.alloc (.deferred (some []))).alloc (.loop (recC fn a.tmps ps assign body w.heap.size .ready none)), ?_, ?_, ?_, ?_, fun _ => h1, ?_⟩
  · exact run_enterLoop_outer _ _ _ _ _
  · simp only [resolve, hg]; simp [go_sem]
  · intro f' hf'; simp [Target.leads] at hf'; subst hf'; exact hFg
  · simp [invoke, go_sem, eg]
  · generalize hW1 : (w.alloc (.deferred (some []))).alloc (.loop (recC fn a.tmps ps assign body w.heap.size .ready none)) = W1 at hL hD hz hi hb1
    have hle : w.heap.size ≤ W1.heap.size := by omega
    refine (hseq (w.heap.size + 1)
      (fun pre W => I pre W ∧ W.heap[w.heap.size + 1]? = some (.loop (recC fn a.tmps ps assign body w.heap.size .ready none)) ∧ W.heap[w.heap.size]? = some (.deferred (some [])))
      (fun pre W => ∃ c, Ix c pre W ∧ W.heap[w.heap.size + 1]? = some (.loop (recC fn a.tmps ps assign body w.heap.size .done (some c))) ∧ W.heap[w.heap.size]? = some (.deferred (some [])))
      W1 hb1
      (fun s X Y row hs hg' hr => ⟨own_later hI hle s X Y row hs.1 hg' hr, grown_later hg' hr (by omega) hs.2.1, grown_later hg' hr (by omega) hs.2.2⟩)
      (fun s X Y row hs hg' hr => let ⟨c, h1, h2, h3⟩ := hs; ⟨c, own_later (hIx c) hle s X Y row h1 hg' hr, grown_later hg' hr (by omega) h2, grown_later hg' hr (by omega) h3⟩)
      (fun pre x W hj hlen => YieldAt.mono (yieldC (Kp := Kp) (l := w.heap.size + 1) hfn (hps x) (Nat.le_succ _) (fun h k => hKt h k) hKb hI hIx hj.1 hj.2.1 (hassign _ x W) (fun W' hr hi' => hbody _ pre x W' (Nat.le_succ _) hr hi' hlen)) ?_) ⟨hi, hL, hD⟩).mono ?_
    · rintro e W' (⟨he, ⟨h2, h3, h4⟩, h5⟩ | ⟨he, c, h2, h3, h4⟩)
      · exact .inl ⟨he, ⟨h2, h3, h4.same _ _ (Nat.le_refl _) (by omega) hj.2.2 rfl⟩, h5, ⟨h4.size, fun k o hk ho hc => h4.same k o (by omega) (by omega) ho hc⟩⟩
      · exact .inr ⟨he, ⟨c, h2, h3, h4.same _ _ (Nat.le_refl _) (by omega) hj.2.2 rfl⟩, ⟨h4.size, fun k o hk ho hc => h4.same k o (by omega) (by omega) ho hc⟩⟩
    · rintro e W2 ⟨⟨v, rfl⟩, (⟨xs, hS, hi, hl, hk⟩ | ⟨pre, hSp, c, hi, hl, hk⟩)⟩
      · exact ⟨none, _, run_endLoop (P := P) hl (by simp [recC]), hdone _ xs _ (Nat.le_refl _) hS (hI.putObj _ hi (Nat.le_succ _) hl rfl) ((World.putObj_heap_other (by omega)).trans hk)⟩
      · exact ⟨some c, _, run_endLoop (P := P) hl (by simp [recC]), hstop _ c pre _ (Nat.le_refl _) hSp ((hIx c).putObj _ hi (Nat.le_succ _) hl rfl) ((World.putObj_heap_other (by omega)).trans hk)⟩

theorem rngCN {l₀ : Nat} {r₀ : Loop} (hro : F.round = some l₀) (hl₀ : w.heap[l₀]? = some (.loop r₀)) (h1 : 1 ≤ n) {gf : Nat} {lb : Array Value} (hg : a.eval g = .func (.func gf) #[] lb) (hFg : F.fn gf) (eg : ∀ args w, (callFunc gf args).run P w = .ok (.enter gf args) w)
    {S Sp : List α → Prop} {N : Nat} {w0 : World} (hseq : SeqC F (n - 1) P gf lb encs Kp S Sp N w0)
    (hKt : ∀ {A B C : World}, Kp A B → Kp B C → Kp A C) (hKb : ∀ (W : World) (l : Nat) (o o' : Obj), w.heap.size ≤ l → W.heap[l]? = some o → o.isCells = false → o.isWalk = false → Kp W (W.putObj l o')) (hb0 : Below w0.heap.size w0 w) (hps : ∀ x, (encs x).size = ps.size)
    (I : List α → World → Prop) (Ix : Code → List α → World → Prop) (hI : OwnFrom w.heap.size I) (hIx : ∀ c, OwnFrom w.heap.size (Ix c)) (h0 : I [] w) (f : Array Value → α → Array Value)
    (hassign : ∀ (l : Nat) (x : α) (W : World) (K : Act → World → Prop), K { tmps := f a.tmps x, defers := [] } W →
      assign.wpIn (F.inRound l) (n - 1 - 1) P (Exit.then K (fun _ _ _ => False)) { tmps := (ps.zip (encs x)).foldl (fun t (p, v) => t.setIfInBounds p v) a.tmps, defers := [] } W)
    (hbody : ∀ (l : Nat) (pre : List α) (x : α) (W : World), w.heap.size ≤ l → (∃ r, W.heap[l]? = some (.loop r)) → I pre W → pre.length < N → body.wpIn (F.inRound l) (n - 1 - 1) P (ownPostG w.heap.size Kp I Ix (pre ++ [x]) W) { tmps := f a.tmps x, defers := [] } W)
    (hdone : ∀ (xs : List α) (W : World), S xs → I xs W → Q .normal a W)
    (hstop : ∀ (c : Code) (pre : List α) (W : World), Sp pre → Ix c pre W → c.wpIn F n P Q a W) :
    (Code.rangeFunc g ps assign body).wpIn F n P Q a w := by
  refine wpIn_rangeFunc (fun fn hfn => ?_)
  rw [hro]
  have hL : (w.alloc (.loop (recC fn a.tmps ps assign body r₀.defers .ready none))).heap[w.heap.size]? = some (.loop (recC fn a.tmps ps assign body r₀.defers .ready none)) := World.alloc_heap_new w _
  have hz : (w.alloc (.loop (recC fn a.tmps ps assign body r₀.defers .ready none))).heap.size = w.heap.size + 1 := by simp
  have hi : I [] (w.alloc (.loop (recC fn a.tmps ps assign body r₀.defers .ready none))) := hI.alloc _ h0
  have hb1 : Below w0.heap.size w0 (w.alloc (.loop (recC fn a.tmps ps assign body r₀.defers .ready none))) := hb0.alloc hb0.size _
  refine ⟨w.heap.size, [], w.alloc (.loop (recC fn a.tmps ps assign body r₀.defers .ready none)), { target := .fn (.func gf) lb, args := #[.func (.yield w.heap.size) #[] #[]] },
    w.alloc (.loop (recC fn a.tmps ps assign body r₀.defers .ready none)), gf, #[.func (.yield w.heap.size) #[] #[]] ++ lb, w.alloc (.loop (recC fn a.tmps ps assign body r₀.defers .ready none)), ?_, ?_, ?_, ?_, fun _ => h1, ?_⟩
  · exact run_enterLoop_inner hl₀ _ _ _ _ _
  · simp only [resolve, hg]; simp [go_sem]
  · intro f' hf'; simp [Target.leads] at hf'; subst hf'; exact hFg
  · simp [invoke, go_sem, eg]
  · generalize hW1 : w.alloc (.loop (recC fn a.tmps ps assign body r₀.defers .ready none)) = W1 at hL hz hi hb1
    have hle : w.heap.size ≤ W1.heap.size := by omega
    refine (hseq w.heap.size
      (fun pre W => I pre W ∧ W.heap[w.heap.size]? = some (.loop (recC fn a.tmps ps assign body r₀.defers .ready none)))
      (fun pre W => ∃ c, Ix c pre W ∧ W.heap[w.heap.size]? = some (.loop (recC fn a.tmps ps assign body r₀.defers .done (some c))))
      W1 hb1
      (fun s X Y row hs hg' hr => ⟨own_later hI hle s X Y row hs.1 hg' hr, grown_later hg' hr (by omega) hs.2⟩)
      (fun s X Y row hs hg' hr => let ⟨c, h1, h2⟩ := hs; ⟨c, own_later (hIx c) hle s X Y row h1 hg' hr, grown_later hg' hr (by omega) h2⟩)
      (fun pre x W hj hlen => YieldAt.mono (yieldC (Kp := Kp) (l := w.heap.size) hfn (hps x) (Nat.le_refl _) (fun h k => hKt h k) hKb hI hIx hj.1 hj.2 (hassign _ x W) (fun W' hr hi' => hbody _ pre x W' (Nat.le_refl _) hr hi' hlen)) ?_) ⟨hi, hL⟩).mono ?_
    · rintro e W' (⟨he, ⟨h2, h3, h4⟩, h5⟩ | ⟨he, c, h2, h3, h4⟩)
      · exact .inl ⟨he, ⟨h2, h3⟩, h5, ⟨h4.size, fun k o hk ho hc => h4.same k o (by omega) (by omega) ho hc⟩⟩
      · exact .inr ⟨he, ⟨c, h2, h3⟩, ⟨h4.size, fun k o hk ho hc => h4.same k o (by omega) (by omega) ho hc⟩⟩
    · rintro e W2 ⟨⟨v, rfl⟩, (⟨xs, hS, hi, hl⟩ | ⟨pre, hSp, c, hi, hl⟩)⟩
      · exact ⟨none, _, run_endLoop (P := P) hl (by simp [recC]), hdone xs _ hS (hI.putObj _ hi (Nat.le_refl _) hl rfl)⟩
      · exact ⟨some c, _, run_endLoop (P := P) hl (by simp [recC]), hstop c pre _ hSp ((hIx c).putObj _ hi (Nat.le_refl _) hl rfl)⟩
end
end Go.Proofs.YtlbfbkdcjdeagaaGreatDoor

/-
  utf.Runes, walked; what is gathered in a box.
-/
namespace Go.Proofs.YtlbfbkdcjdeagaaGreatDoor
open Go.RowKit Go.Shelf
attribute [local go_sem] Oper.semAt_some

theorem Own.kept1 {w w' : World} {base : Nat} {e : TypeId} {s : Nat} {A : Option Addr} {n c : Nat} {cs : List (List Value)} {row : Option Nat} (h : Own w base e s A n c cs) (hg : w.grownBy w' row) (hr : ∀ r, row = some r → ∃ o : Obj, w.heap[r]? = some o ∧ o.isCells = false) : Own w' base e s A n c cs := by
  refine h.keep fun a ha => ?_
  have hl := (h.lt a ha).2
  refine hg.block _ hl fun e => ?_
  obtain ⟨o, h1, h2⟩ := hr _ e.symm
  rcases h.2.2.2 with ⟨h0, _⟩ | ⟨g, cap, cur, hv, _, hh, _⟩
  · injection h0 with h0; rw [ha] at h0; cases h0
  · injection hv with hv
    rw [ha] at hv
    injection hv with hv
    subst hv
    rw [hh] at h1
    cases h1
    cases h2
/-- What is gathered in a box: a row of the call's own; nothing else has turned. -/
def Gat (w0 : World) (ab : Nat) (vt e : TypeId) (cs : List (List Value)) (W : World) : Prop :=
  ∃ A n c, Blk W ab vt #[.slice A n c] ∧ Own W w0.heap.size e 1 A n c cs ∧ w0.grownBy W (some ab)
theorem Gat.own {α : Type} {w0 : World} {ab B : Nat} {vt e : TypeId} {f : List α → List (List Value)} (hB : w0.heap.size ≤ B) : OwnFrom B (fun (pre : List α) W => Gat w0 ab vt e (f pre) W) := fun pre X Y row hs hg hr => by
  obtain ⟨A, n, c, h1, h2, h3⟩ := hs
  refine ⟨A, n, c, h1.kept hg (fun r e => (hr r e).2), h2.kept1 hg (fun r e => (hr r e).2), ⟨hg.os.trans h3.os, hg.tape.trans h3.tape, hg.output.trans h3.output, Nat.le_trans h3.size hg.size, fun k hk hne => ?_⟩⟩
  refine (hg.block k (Nat.lt_of_lt_of_le hk h3.size) (fun e => ?_)).trans (h3.block k hk hne)
  have := (hr k e.symm).1
  omega
/-- One step of gathering: the row has grown in V (behind W), then the box is written. -/
theorem Gat.step {w0 W V : World} {ab : Nat} {vt e : TypeId} {A A3 : Option Addr} {n c n3 c3 : Nat} {cs cs3 : List (List Value)} (hab : ab < w0.heap.size) (hB : Blk W ab vt #[.slice A n c]) (ho : Own W w0.heap.size e 1 A n c cs) (hg : w0.grownBy W (some ab))
    (hV : W.grownBy V (A.map (·.block))) (ho3 : Own V w0.heap.size e 1 A3 n3 c3 cs3) :
    KeepsFrom w0.heap.size W (V.setCell ⟨ab, 0, none⟩ (.slice A3 n3 c3)) ∧ KeepsWalks W (V.setCell ⟨ab, 0, none⟩ (.slice A3 n3 c3)) ∧ Gat w0 ab vt e cs3 (V.setCell ⟨ab, 0, none⟩ (.slice A3 n3 c3)) := by
  have hzW := hg.size
  have hA := ho.lt
  have hrow : ∀ (j : Nat) (o : Obj), A.map (·.block) = some j → W.heap[j]? = some o → o.isCells = true := fun j o hj hoo => by
    cases A with
    | none => simp at hj
    | some q =>
      simp at hj; subst hj
      rcases ho.2.2.2 with ⟨h0, _⟩ | ⟨g, cap, cur, hv, _, hh, _⟩
      · injection h0 with h0; cases h0
      · injection hv with hv
        injection hv with hv
        subst hv
        rw [hh] at hoo
        cases hoo; rfl
  have hkk := (KeepsOthers.of_grownBy hV hrow).trans (KeepsOthers.setCell V ⟨ab, 0, none⟩ (.slice A3 n3 c3))
  have hge : ∀ q, A.map (·.block) = some q → w0.heap.size ≤ q := fun q hq => by
    cases A with
    | none => simp at hq
    | some z => have := (hA z rfl).1; simp at hq; omega
  have hblk : ∀ k, k < w0.heap.size → V.heap[k]? = W.heap[k]? := fun k hk => hV.block k (by omega) (fun e => by have := hge k e.symm; omega)
  have hz3 : W.heap.size ≤ V.heap.size := hV.size
  have hB3 : Blk V ab vt #[.slice A n c] := (hblk ab hab).trans hB
  refine ⟨hkk.from _, hkk.walks, A3, n3, c3, hB3.set_ 0 _, ho3.keep (fun q hq => Below.heap_setCell V ⟨ab, 0, none⟩ _ _ (by have := (ho3.lt q hq).1; simp only; omega)), ?_⟩
  refine ⟨hV.os.trans hg.os, hV.tape.trans hg.tape, hV.output.trans hg.output, by simpa [World.setCell] using Nat.le_trans hzW hz3, fun k hk hne => ?_⟩
  exact (Below.heap_setCell V ⟨ab, 0, none⟩ _ k (fun e => hne (by rw [e]))).trans ((hblk k hk).trans (hg.block k hk hne))
/-- A rune's number as a list's item. -/
def encRu (x : Nat × Nat × Nat) : List Value := [.int .i32 (x.1 : Nat)]
theorem infoI32 : (Tryz.prog.info? 21).map (fun i => (i.zero, i.size, i.bytes)) = some (some (.int .i32 0), 1, 4) := by kernel_rfl
set_option maxRecDepth 100000 in
set_option maxHeartbeats 4000000 in
theorem eRunes_any (s : ByteArray) (w : World) (hs : s.size ≤ 1000000) : Calls Tryz.prog 41 #[.string s] w fun e w' => ∃ A n c, e = .returned (.slice A n c) ∧ Own w' w.heap.size 21 1 A n c ((runesP s).map encRu) ∧ RowKit.Below w.heap.size w w' := by
  have HB : RowKit.Below w.heap.size w (w.alloc (.cells #[.slice none 0 0] 53)) := (RowKit.Below.refl _ _).alloc (Nat.le_refl _) _
  have B0 : Blk (w.alloc (.cells #[.slice none 0 0] 53)) w.heap.size 53 #[.slice none 0 0] := Blk.new _ _ _
  refine (callsIn_wide (n := 6)).1 ?_
  refine callsIn_of_wp_marks Tryz.func41 rfl trivial ?_ rfl
  simp only [Tryz.ntmps41, List.size_toArray, List.length_cons, List.length_nil, Nat.reduceAdd, Nat.reduceSub, Array.replicate_succ, Array.replicate_zero, List.push_toArray, List.append_toArray, List.nil_append, List.cons_append]
  refine wpIn_wide.2 ?_
  go_wp2_with fail
  generalize (w.alloc (.cells #[.slice none 0 0] 53)) = w0 at HB B0 ⊢
  refine (uEach_any s w0).mono ?_
  rintro e w1 ⟨bs, rfl, hc, hb⟩
  have B1 := B0.below hb
  have hzb : w.heap.size < w1.heap.size := B1.lt
  replace HB := below_two HB hb
  have hrl := runesP_len s
  clear B0 hb
  go_wp2_with fail
  refine (wpIn_wide (n := 6)).1 ?_
  refine rngH rfl (by decide) (gf := 115) (lb := #[.pointer (some ⟨bs, 0, none⟩)]) rfl trivial (enters_of Tryz.func115 (by kernel_rfl) rfl)
    (uEach_stops 5 (by decide) w1 s bs hc) (fun h k => h.trans k) walksK_b (RowKit.Below.refl _ _) (fun _ => rfl) (fun _ => KeepsWalks.refl _)
    (fun (pre : List (Nat × Nat × Nat)) W => Gat w1 w.heap.size 53 21 (pre.map encRu) W) (fun _ _ _ => False) (Gat.own (f := fun (pre : List (Nat × Nat × Nat)) => pre.map encRu) (Nat.le_refl _)) (fun _ _ _ _ _ hs _ _ => hs)
    ⟨none, 0, 0, B1, Own.nil_ _ _ _ _, only_refl _ _⟩
    (fun T x => ((T.setIfInBounds 8 (.int .i64 (x.2.1 : Nat))).setIfInBounds 9 (.int .i32 (x.1 : Nat))).setIfInBounds 5 (.int .i32 (x.1 : Nat))) ?assign ?body ?done ?stop
  case assign =>
    intro l2 x V K hK
    simp only [List.setIfInBounds_toArray, List.set_cons_succ, List.set_cons_zero] at hK
    simp only [encU]
    gi_wp2
    exact hK
  case stop =>
    rintro D cc pre W _ hp h _
    exact absurd h id
  case body =>
    rintro l2 pre ⟨r, pp, qq⟩ W hl2 _ ⟨A9, n9, c9, BaW, oW, hgW⟩ hlen
    simp only [List.setIfInBounds_toArray, List.set_cons_succ, List.set_cons_zero]
    obtain ⟨i0, hi0, hz0, hz1, hz2⟩ := info_parts infoI32
    have hl9 : pre.length = n9 := by have h1 := oW.len; simpa using h1
    have hn9 : n9 ≤ 1000000 := by omega
    have c10 := BaW.cell 0
    simp only [List.getElem?_toArray, List.getElem?_cons_zero] at c10
    have hzW := hgW.size
    have hA9 := oW.lt
    have f10 := BaW.frozen 0
    clear hl9 hlen
    gi_wp2_with (gi_at_builtin; go_must (refine wpListIn_app rfl (.tmp 10) (.tmp 12) _ rfl w1.heap.size 21 i0 _ 1 4 Tryz.underlying53 hi0 hz0 hz1 hz2 rfl (by omega) A9 n9 c9 (pre.map encRu) rfl (oW.alloc _) _ 1 1 [[.int .i32 (r : Nat)]] rfl rfl (Rd.newAt (by simp) rfl) (fun y hy => by rw [List.mem_singleton] at hy; subst hy; exact ⟨rfl, by simp [Value.oneCell']⟩) (by unfold maxLen; omega) (by omega) (by simp; omega) ?_); intro A3 c3 w3 ho3 hg3 hA3; have B3 := (BaW.alloc (.cells #[.int .i32 (r : Nat)] 21)).grown hg3 (fun e => by cases A9 with | none => simp at e | some q => have := (hA9 q rfl).1; simp at e; omega); have f3 := B3.frozen 0; have c3b := B3.cell 0; simp only [List.getElem?_toArray, List.getElem?_cons_zero] at c3b)
    have hV : W.grownBy w3 (A9.map (·.block)) := only_trans (only_alloc (only_refl W _) _) hg3
    obtain ⟨k1, k2, k3⟩ := Gat.step hzb BaW oW hgW hV ho3
    exact ⟨k1, k2, by show Gat _ _ _ _ (List.map encRu _) _; rw [List.map_append]; exact k3⟩
  case done =>
    rintro D ys V hD hys ⟨A, n, c, B, ho, hg⟩ hK
    have c10 := B.cell 0
    simp only [List.getElem?_toArray, List.getElem?_cons_zero] at c10
    have hys2 : ys.map encRu = (runesP s).map encRu := by rw [hys]
    rw [hys2] at ho
    go_wp2
    refine ⟨by simp, .inl ⟨_, _, rfl, run_takeDeferred hK, ?_⟩⟩
    refine ⟨_, results_tmp rfl _ _ _, A, n, c, rfl, (ho.keep fun a ha => World.putObj_heap_other (fun e => ?_)).more (by omega), ?_⟩
    · rcases ho.2.2.2 with ⟨h0, _⟩ | ⟨g, cap, cur, hv, _, hh, _⟩
      · injection h0 with h0; rw [h0] at ha; cases ha
      · injection hv with hv
        rw [hv] at ha
        injection ha with ha
        subst ha
        simp only at e
        subst e
        rw [hh] at hK
        cases hK
    · exact (HB.trans (below_only (B := w.heap.size) hg (by omega) (Nat.le_refl _))).trans (belowK_b (w := w) (Nat.le_refl _) _ D _ _ (by omega) hK rfl rfl)
end Go.Proofs.YtlbfbkdcjdeagaaGreatDoor

/-
  runes.Each: the iterator over a set's runes.
-/
namespace Go.Proofs.YtlbfbkdcjdeagaaGreatDoor
open Go.RowKit Go.Shelf
attribute [local go_sem] Oper.semAt_some

/-- The runes of one range; of a list of ranges. -/
def spanR (lo : Int) (n : Nat) : List Int := (List.range n).map fun (i : Nat) => lo + (i : Int)
def eachL (L : List (Int × Int)) : List Int := L.flatMap fun x => spanR x.1 (x.2 - x.1 + 1).toNat
theorem spanR_succ (lo : Int) (n : Nat) : spanR lo (n + 1) = spanR lo n ++ [lo + (n : Int)] := by unfold spanR; rw [List.range_succ, List.map_append]; rfl
theorem spanR_prefix (lo : Int) {j n : Nat} (h : j ≤ n) : spanR lo j <+: spanR lo n := by
  obtain ⟨k, rfl⟩ := Nat.exists_eq_add_of_le h
  induction k with
  | zero => exact List.prefix_refl _
  | succ k ih => rw [← Nat.add_assoc, spanR_succ]; exact (ih (by omega)).trans (List.prefix_append _ _)
theorem eachL_take {L : List (Int × Int)} {i : Nat} {x : Int × Int} (h : L[i]? = some x) : eachL (L.take (i + 1)) = eachL (L.take i) ++ spanR x.1 (x.2 - x.1 + 1).toNat := by
  unfold eachL; rw [List.take_add_one, h, Option.toList_some, List.flatMap_append]; simp
theorem eachL_prefix {L : List (Int × Int)} {i j : Nat} {x : Int × Int} (h : L[i]? = some x) (hj : j ≤ (x.2 - x.1 + 1).toNat) : eachL (L.take i) ++ spanR x.1 j <+: eachL L := by
  have h1 : eachL (L.take i) ++ spanR x.1 j <+: eachL (L.take (i + 1)) := by rw [eachL_take h]; exact (List.prefix_append_right_inj _).2 (spanR_prefix _ hj)
  refine h1.trans ?_
  refine ⟨eachL (L.drop (i + 1)), ?_⟩
  unfold eachL
  rw [← List.flatMap_append, List.take_append_drop]
/-- Cells from block m on stand as they stood, but for the blocks of X. -/
structure KC (m : Nat) (X : Nat → Prop) (W W' : World) : Prop where
  size : W.heap.size ≤ W'.heap.size
  same : ∀ (k : Nat) (o : Obj), m ≤ k → ¬ X k → W.heap[k]? = some o → o.isCells = true → W'.heap[k]? = some o
  walks : KeepsWalks W W'
theorem KC.refl (m : Nat) (X : Nat → Prop) (W : World) : KC m X W W := ⟨Nat.le_refl _, fun _ _ _ _ h _ => h, KeepsWalks.refl _⟩
theorem KC.trans {m : Nat} {X : Nat → Prop} {A B C : World} (h : KC m X A B) (k : KC m X B C) : KC m X A C :=
  ⟨Nat.le_trans h.size k.size, fun i o hm hx ho hc => k.same i o hm hx (h.same i o hm hx ho hc) hc, h.walks.trans k.walks⟩
theorem KC.put {m : Nat} {X : Nat → Prop} (W : World) (l : Nat) (o o' : Obj) (h : W.heap[l]? = some o) (hc : o.isCells = false) (hw : o.isWalk = false) : KC m X W (W.putObj l o') :=
  ⟨by simp, fun k o2 _ _ hk hk2 => by
    by_cases e : k = l
    · subst e; rw [h] at hk; cases hk; rw [hc] at hk2; cases hk2
    · exact (World.putObj_heap_other e).trans hk, KeepsWalks.putObj o' h hw⟩
theorem KC.blk {m : Nat} {X : Nat → Prop} {W W' : World} (h : KC m X W W') {g : Nat} {t : TypeId} {cs : Array Value} (hB : Blk W g t cs) (hm : m ≤ g) (hx : ¬ X g) : Blk W' g t cs := h.same g _ hm hx hB rfl
theorem KC.cell {m : Nat} {X : Nat → Prop} {W W' : World} (h : KC m X W W') {b i : Nat} {v : Value} (hv : W.cell? ⟨b, i, none⟩ = some v) (hm : m ≤ b) (hx : ¬ X b) : W'.cell? ⟨b, i, none⟩ = some v := by
  cases ho : W.heap[b]? with
  | none => unfold World.cell? at hv; rw [ho] at hv; cases hv
  | some o =>
    cases hc : o.isCells with
    | true => exact (World.cell?_of_block ((h.same b o hm hx ho hc).trans ho.symm)).trans hv
    | false => unfold World.cell? at hv; rw [ho] at hv; cases o <;> simp_all [Obj.isCells]
theorem KC.rd {m : Nat} {X : Nat → Prop} {w w' : World} {s : Nat} {A : Option Addr} {cs : List (List Value)} (h : KC m X w w') (hr : Rd w s A cs) (hA : ∀ a, A = some a → m ≤ a.block ∧ ¬ X a.block) : Rd w' s A cs :=
  hr.keep fun b off _ _ ha hp => h.cell hp (hA ⟨b, off, none⟩ ha).1 (hA ⟨b, off, none⟩ ha).2

/-- What the iterator's box holds; m: where its blocks begin. -/
def EachIt (w : World) (L : List (Int × Int)) (m bx : Nat) : Prop :=
  ∃ A na ca, w.cell? ⟨bx, 0, none⟩ = some (.slice A na ca) ∧ Rd w 2 A (L.map encR) ∧ L.length = na ∧ na ≤ 4000000 ∧ m ≤ bx ∧ ∀ a, A = some a → m ≤ a.block ∧ a.block < w.heap.size
end Go.Proofs.YtlbfbkdcjdeagaaGreatDoor

/-
  WHAT AN ITERATOR NEEDS TO BE KEPT while it goes over a list of its own: the blocks of one element type. No program in sight.
-/
namespace Go.Proofs.YtlbfbkdcjdeagaaGreatDoor
open Go Go.RowKit

/-- The blocks of the element type t stand as they stood, but for those of X. -/
def KT (t : TypeId) (X : Nat → Prop) (W W' : World) : Prop := W.heap.size ≤ W'.heap.size ∧ ∀ (k : Nat) (cur : Array Value) (fz : Nat × Nat), ¬ X k → W.heap[k]? = some (.cells cur t fz) → W'.heap[k]? = some (.cells cur t fz)
/-- A list's number, by its place. -/
theorem Rd.atQ {w : World} {A : Option Addr} {l : List Nat} {k x : Nat} (h : Rd w 1 A (l.map fun a => [.int .i64 (a : Nat)])) (hk : l[k]? = some x) : ∃ b off, A = some ⟨b, off, none⟩ ∧ w.cell? ⟨b, off + k, none⟩ = some (.int .i64 (x : Nat)) := by
  obtain ⟨b, off, rfl, hc⟩ := h (by intro e; have := congrArg List.length e; rw [List.length_map] at this; have h2 := (List.getElem?_eq_some_iff.1 hk).1; simp at this; rw [this] at h2; simp at h2)
  have h0 := hc k 0 [.int .i64 (x : Nat)] (.int .i64 (x : Nat)) (by simp [hk]) rfl
  refine ⟨b, off, rfl, ?_⟩
  simpa using h0
/-- A list that was just laid. -/
theorem Rd.manyQ (W : World) (t : TypeId) (s : Nat) (cs : List (List Value)) (arr : Array Value) (harr : arr = cs.flatten.toArray) (h : ∀ x ∈ cs, x.length = s) : Rd (W.alloc (.cells arr t)) s (some ⟨W.heap.size, 0, none⟩) cs := fun _ =>
  ⟨W.heap.size, 0, rfl, fun k j x u hx hu => by
    subst harr
    rw [(Blk.new W t cs.flatten.toArray).cell (0 + k * s + j), List.getElem?_toArray, Nat.zero_add]
    exact flatten_get h hx hu⟩
theorem kcQ_setCell {m : Nat} {X : Nat → Prop} {A B : World} (h : KC m X A B) {p : Addr} (hp : p.block < m ∨ X p.block) (u : Value) : KC m X A (B.setCell p u) :=
  ⟨by simpa [World.setCell] using h.size, fun k o hm hx ho hc => (Below.heap_setCell B p u k (by
    rintro rfl
    rcases hp with hp | hp
    · omega
    · exact hx hp)).trans (h.same k o hm hx ho hc), h.walks.trans (KeepsWalks.setCell B p u)⟩
theorem kcQ_below {m : Nat} {X : Nat → Prop} {A B : World} (h : Below A.heap.size A B) : KC m X A B :=
  ⟨h.size, fun k _ _ _ hk _ => (h.block k (Array.getElem?_eq_some_iff.1 hk).1).trans hk, ⟨h.size, fun k _ hk _ => (h.block k (Array.getElem?_eq_some_iff.1 hk).1).trans hk⟩⟩
section
variable {t : TypeId} {X : Nat → Prop} {A B C : World}
theorem KT.refl (t : TypeId) (X : Nat → Prop) (W : World) : KT t X W W := ⟨Nat.le_refl _, fun _ _ _ _ h => h⟩
theorem KT.trans (h : KT t X A B) (k : KT t X B C) : KT t X A C := ⟨Nat.le_trans h.1 k.1, fun i c z hx hc => k.2 i c z hx (h.2 i c z hx hc)⟩
theorem KT.of_kc (h : KC 0 X A B) : KT t X A B := ⟨h.size, fun k _ _ hx hk => h.same k _ (Nat.zero_le _) hx hk rfl⟩
theorem KT.put (W : World) (l : Nat) (o o' : Obj) (h : W.heap[l]? = some o) (hc : o.isCells = false) : KT t X W (W.putObj l o') :=
  ⟨by simp, fun k c z _ hk => by
    by_cases e : k = l
    · subst e; rw [h] at hk; cases hk; cases hc
    · exact (World.putObj_heap_other e).trans hk⟩
theorem KT.below (h : Below A.heap.size A B) : KT t X A B := ⟨h.size, fun k _ _ _ hk => (h.block k (Array.getElem?_eq_some_iff.1 hk).1).trans hk⟩
theorem KT.own {base : Nat} {s : Nat} {P : Option Addr} {n c : Nat} {cs : List (List Value)} (h : KT t X A B) (ho : Own A base t s P n c cs) (hX : ∀ b, X b → b < base) : Own B base t s P n c cs := by
  refine ho.keep fun a ha => ?_
  rcases ho.2.2.2 with ⟨h0, _⟩ | ⟨g, cap, cur, hv, hg, hh, _⟩
  · injection h0 with h0; rw [h0] at ha; cases ha
  · injection hv with hv
    rw [hv] at ha
    injection ha with ha
    subst ha
    exact (h.2 _ _ _ (fun hx => by have := hX _ hx; omega) hh).trans hh.symm
theorem KT.blk (h : KT t X A B) {g : Nat} {cs : Array Value} (hB : Blk A g t cs) (hx : ¬ X g) : Blk B g t cs := h.2 g cs (0, 0) hx hB
theorem KT.setCell {b : Nat} {t' : TypeId} {cs : Array Value} (hB : Blk A b t' cs) (ht : t' ≠ t) (i : Nat) (u : Value) : KT t X A (A.setCell ⟨b, i, none⟩ u) :=
  ⟨by simp [World.setCell], fun k cur fz _ hk => (Below.heap_setCell A ⟨b, i, none⟩ u k (fun e => by
    subst e
    have h2 : A.heap[k]? = some _ := hB
    rw [h2] at hk
    injection hk with hk
    injection hk with _ hk
    exact ht hk)).trans hk⟩
/-- A step of gathering, in a box and a row of other types. -/
theorem Gat.stepT {w0 W V : World} {ab : Nat} {vt e : TypeId} {P : Option Addr} {n c : Nat} {cs : List (List Value)} (he : e ≠ t) (hv : vt ≠ t) (hB : Blk W ab vt #[.slice P n c]) (ho : Own W w0.heap.size e 1 P n c cs) (hV : W.grownBy V (P.map (·.block))) (x : Value) :
    KT t X W (V.setCell ⟨ab, 0, none⟩ x) := by
  refine ⟨by simpa [World.setCell] using hV.size, fun k cur fz _ hk => ?_⟩
  have h1 : k ≠ ab := fun e => by
    subst e
    have h2 : W.heap[k]? = some _ := hB
    rw [h2] at hk
    injection hk with hk
    injection hk with _ hk
    exact hv hk
  refine (Below.heap_setCell V ⟨ab, 0, none⟩ _ k h1).trans ((hV.block k (Array.getElem?_eq_some_iff.1 hk).1 (fun e2 => ?_)).trans hk)
  rcases ho.2.2.2 with ⟨h0, _⟩ | ⟨g, cap, cur2, hv2, _, hh, _⟩
  · injection h0 with h0; rw [h0] at e2; cases e2
  · injection hv2 with hv2
    rw [hv2] at e2
    injection e2 with e2
    simp only at e2
    subst e2
    rw [hh] at hk
    injection hk with hk
    injection hk with _ hk
    exact he hk
end
end Go.Proofs.YtlbfbkdcjdeagaaGreatDoor

/-
  PLAIN: lines: which chances there are; a line's end stands at the end of a line alone. No walk.
-/
namespace Go.Proofs.YtlbfbkdcjdeagaaGreatDoor

theorem lPick_mem {c : List Int} {a : Nat} {b : Bool} : ∀ {P : List Nat} {i : Nat}, (a, b) ∈ lPick c i P ↔ ∃ k, P[k]? = some a ∧ i + k ≠ 0 ∧ lCut c (i + k) = true ∧ b = lMust (c.getD (i + k - 1) 0)
  | [], i => by simp [lPick]
  | d :: P, i => by
    rw [lPick, List.mem_append, lPick_mem (P := P)]
    constructor
    · rintro (h | ⟨k, h1, h2, h3, h4⟩)
      · split at h
        · rename_i hc
          simp only [List.mem_singleton, Prod.mk.injEq] at h
          exact ⟨0, by simp [h.1], hc.1, hc.2, h.2⟩
        · simp at h
      · refine ⟨k + 1, by simpa using h1, by omega, ?_, ?_⟩
        · rw [show i + (k + 1) = i + 1 + k by omega]; exact h3
        · rw [show i + (k + 1) - 1 = i + 1 + k - 1 by omega]; exact h4
    · rintro ⟨k, h1, h2, h3, h4⟩
      cases k with
      | zero =>
        simp at h1; subst h1
        exact .inl (by rw [if_pos ⟨h2, h3⟩, h4]; exact List.mem_singleton.2 rfl)
      | succ k =>
        refine .inr ⟨k, by simpa using h1, by omega, ?_, ?_⟩
        · rw [show i + 1 + k = i + (k + 1) by omega]; exact h3
        · rw [show i + 1 + k - 1 = i + (k + 1) - 1 by omega]; exact h4
theorem lInj (s : ByteArray) {k j : Nat} {x y : Nat × Nat × Nat} (hk : (runesP s)[k]? = some x) (hj : (runesP s)[j]? = some y) (h : x.2.1 = y.2.1) : k = j := by
  have hr := List.pairwise_iff_getElem.1 (runes_rise' s)
  obtain ⟨h1, rfl⟩ := List.getElem?_eq_some_iff.1 hk
  obtain ⟨h2, rfl⟩ := List.getElem?_eq_some_iff.1 hj
  rcases Nat.lt_trichotomy k j with hlt | he | hgt
  · have := hr k j h1 h2 hlt; omega
  · exact he
  · have := hr j k h2 h1 hgt; omega
/-- Which chance stands ahead of a rune. -/
theorem lChances_at {g : Int → Nat} {s : ByteArray} {k : Nat} {x : Nat × Nat × Nat} (hx : (runesP s)[k]? = some x) (b : Bool) : (x.2.1, b) ∈ lChances g s ↔ k ≠ 0 ∧ lCut (lCls g s) k = true ∧ b = lMust ((lCls g s).getD (k - 1) 0) := by
  have hb := runesP_bd x (List.mem_of_getElem? hx)
  unfold lChances
  rw [List.mem_append]
  constructor
  · rintro (h | h)
    · obtain ⟨j, h1, h2, h3, h4⟩ := lPick_mem.1 h
      rw [List.getElem?_map] at h1
      obtain ⟨y, hy, e⟩ := Option.map_eq_some_iff.1 h1
      have := lInj s hx hy e.symm
      subst this
      rw [Nat.zero_add] at h2 h3 h4
      exact ⟨h2, h3, h4⟩
    · split at h
      · simp at h
      · simp at h; omega
  · rintro ⟨h2, h3, h4⟩
    exact .inl (lPick_mem.2 ⟨k, by rw [List.getElem?_map, hx]; rfl, by rw [Nat.zero_add]; exact ⟨h2, h3, h4⟩⟩)
/-- Within a line no line ends. -/
theorem line_inside {g : Int → Nat} {s : ByteArray} {a b : Nat} (hab : a ≤ b) (ha : PlaceAt s a) (hb : PlaceAt s b) (hno : ∀ p, a < p → p < b → (p, true) ∉ lChances g s) {i : Nat} {p q : Int} (hp : (lCls g (s.extract a b))[i]? = some p) (hq : (lCls g (s.extract a b))[i + 1]? = some q) :
    p ≠ 1 ∧ p ≠ 3 ∧ (p = 2 → q = 3 ∧ i + 2 = (lCls g (s.extract a b)).length) := by
  obtain ⟨P, Q, hPQ, hP, hQ⟩ := runes_sub s hab ha hb
  have hbz := hb.le
  have ht : (s.extract a b).size = b - a := by rw [ByteArray.size_extract]; omega
  have hcs : lCls g s = P.map (fun x => (g x.1 : Int)) ++ lCls g (s.extract a b) ++ Q.map (fun x => (g x.1 : Int)) := by
    unfold lCls
    rw [hPQ, List.map_append, List.map_append, List.map_map]; rfl
  have hget : ∀ k (v : Int), (lCls g (s.extract a b))[k]? = some v → (lCls g s).getD (P.length + k) 0 = v := fun k v hk => by
    have hlt := (List.getElem?_eq_some_iff.1 hk).1
    rw [hcs, List.getD_eq_getElem?_getD, List.append_assoc, List.getElem?_append_right (by rw [List.length_map]; omega), List.length_map, Nat.add_sub_cancel_left, List.getElem?_append_left hlt, hk]; rfl
  -- a place inside, behind the first rune
  have hin : ∀ k, 0 < k → k < (lCls g (s.extract a b)).length → ¬ (lCut (lCls g s) (P.length + k) = true ∧ lMust ((lCls g s).getD (P.length + k - 1) 0) = true) := fun k hk0 hk hc => by
    rw [lCls_len] at hk
    have hx : (runesP s)[P.length + k]? = some (shR a (runesP (s.extract a b))[k]) := by
      rw [hPQ, List.append_assoc, List.getElem?_append_right (by omega), Nat.add_sub_cancel_left, List.getElem?_append_left (by rw [List.length_map]; exact hk), List.getElem?_map, List.getElem?_eq_getElem hk]; rfl
    have hb2 := runesP_bd _ (List.getElem_mem hk)
    have h0 : (runesP (s.extract a b))[0].2.1 < (runesP (s.extract a b))[k].2.1 := List.pairwise_iff_getElem.1 (runes_rise' _) 0 k (by omega) hk hk0
    refine hno (shR a (runesP (s.extract a b))[k]).2.1 (by simp only [shR]; omega) (by simp only [shR]; omega) ?_
    exact (lChances_at hx true).2 ⟨by omega, hc.1, hc.2.symm⟩
  have hlq := (List.getElem?_eq_some_iff.1 hq).1
  have gp := hget i p hp
  have gq := hget (i + 1) q hq
  have step : lMust p = true → p = 2 ∧ q = 3 := fun hm => by
    have hc := lCut_end (c := lCls g s) (i := P.length + i) (by rw [gp]; exact hm)
    have gq' : (lCls g s).getD (P.length + i + 1) 0 = q := gq
    rw [gp, gq'] at hc
    by_cases h23 : p = 2 ∧ q = 3
    · exact h23
    · exfalso
      rw [decide_eq_false h23] at hc
      exact hin (i + 1) (by omega) hlq ⟨hc, by rw [show P.length + (i + 1) - 1 = P.length + i by omega, gp]; exact hm⟩
  refine ⟨fun h => ?_, fun h => ?_, fun h => ?_⟩
  · have := step (by rw [h]; rfl); omega
  · have := step (by rw [h]; rfl); omega
  · obtain ⟨_, hq3⟩ := step (by rw [h]; rfl)
    refine ⟨hq3, ?_⟩
    rcases Nat.lt_or_ge (i + 2) (lCls g (s.extract a b)).length with hlt | hge
    · exfalso
      have hc := lCut_end (c := lCls g s) (i := P.length + (i + 1)) (by rw [gq, hq3]; rfl)
      rw [gq, decide_eq_false (by omega)] at hc
      exact hin (i + 2) (by omega) hlt ⟨hc, by rw [show P.length + (i + 2) - 1 = P.length + (i + 1) by omega, gq, hq3]; rfl⟩
    · omega
end Go.Proofs.YtlbfbkdcjdeagaaGreatDoor

/-
  Lines, plain: what stands between the chances that must be taken.
-/
namespace Go.Proofs.YtlbfbkdcjdeagaaGreatDoor

def linP (f : Nat) : List (Nat × Bool) → List (Nat × Nat)
  | [] => []
  | (a, m) :: r => if m then (f, a) :: linP a r else linP f r
theorem linP_mem : ∀ (L : List (Nat × Bool)) (f : Nat), (∀ y ∈ L, f < y.1) → L.Pairwise (fun x y => x.1 < y.1) → ∀ x ∈ linP f L,
    f ≤ x.1 ∧ x.1 < x.2 ∧ (x.1 = f ∨ (x.1, true) ∈ L) ∧ (x.2, true) ∈ L ∧ ∀ p, x.1 < p → p < x.2 → (p, true) ∉ L
  | [], _, _, _, x, h => by simp [linP] at h
  | (a, m) :: r, f, hf, hp, x, h => by
    rw [List.pairwise_cons] at hp
    have hfa : f < a := hf (a, m) (by simp)
    rw [linP] at h
    cases m with
    | true =>
      rw [if_pos rfl] at h
      rcases List.mem_cons.1 h with rfl | h
      · refine ⟨Nat.le_refl _, hfa, .inl rfl, by simp, fun p h1 h2 hm => ?_⟩
        rcases List.mem_cons.1 hm with e | hm
        · injection e with e _; omega
        · have := hp.1 _ hm; simp only at this; omega
      · obtain ⟨h1, h2, h3, h4, h5⟩ := linP_mem r a (fun y hy => hp.1 y hy) hp.2 x h
        refine ⟨by omega, h2, .inr ?_, List.mem_cons_of_mem _ h4, fun p h6 h7 hm => ?_⟩
        · rcases h3 with h3 | h3
          · rw [h3]; simp
          · exact List.mem_cons_of_mem _ h3
        · rcases List.mem_cons.1 hm with e | hm
          · injection e with e _; omega
          · exact h5 p h6 h7 hm
    | false =>
      rw [if_neg (by decide)] at h
      obtain ⟨h1, h2, h3, h4, h5⟩ := linP_mem r f (fun y hy => hf y (List.mem_cons_of_mem _ hy)) hp.2 x h
      refine ⟨h1, h2, h3.imp id (List.mem_cons_of_mem _), List.mem_cons_of_mem _ h4, fun p h6 h7 hm => ?_⟩
      rcases List.mem_cons.1 hm with e | hm
      · injection e with _ e; cases e
      · exact h5 p h6 h7 hm
/-- Where the next line begins. -/
def lastP (f : Nat) (pre : List (Nat × Nat)) : Nat := ((pre.getLast?).map fun x => x.2).getD f
theorem lastP_snoc (f : Nat) (pre : List (Nat × Nat)) (x : Nat × Nat) : lastP f (pre ++ [x]) = x.2 := by unfold lastP; simp
theorem lastP_cons (f : Nat) (x : Nat × Nat) (pre : List (Nat × Nat)) : lastP f (x :: pre) = lastP x.2 pre := by
  unfold lastP
  cases pre with
  | nil => rfl
  | cons y r =>
    rw [List.getLast?_cons_cons]
    cases h : (y :: r).getLast? with
    | none => simp at h
    | some z => rfl
theorem linP_next : ∀ (L : List (Nat × Bool)) (f : Nat) (pre : List (Nat × Nat)) (x : Nat × Nat), pre ++ [x] <+: linP f L → x.1 = lastP f pre
  | [], f, pre, x, h => by
    have := h.length_le
    simp [linP] at this
  | (a, m) :: r, f, pre, x, h => by
    rw [linP] at h
    cases m with
    | true =>
      rw [if_pos rfl] at h
      cases pre with
      | nil =>
        obtain ⟨t, ht⟩ := h
        simp at ht
        rw [ht.1]; rfl
      | cons y pre =>
        obtain ⟨t, ht⟩ := h
        simp only [List.cons_append] at ht
        injection ht with h1 h2
        rw [lastP_cons, h1]
        exact linP_next r a pre x ⟨t, h2⟩
    | false =>
      rw [if_neg (by decide)] at h
      exact linP_next r f pre x h
theorem linP_last : ∀ (L : List (Nat × Bool)) (f z : Nat), lastP f (linP f (L ++ [(z, true)])) = z
  | [], f, z => rfl
  | (a, m) :: r, f, z => by
    rw [List.cons_append, linP]
    cases m with
    | true => rw [if_pos rfl, lastP_cons]; exact linP_last r a z
    | false => rw [if_neg (by decide)]; exact linP_last r f z
theorem linP_snoc (L : List (Nat × Bool)) (k : Nat) {a : Nat} {m : Bool} (h : L[k]? = some (a, m)) : L.drop k = (a, m) :: L.drop (k + 1) := by
  rw [List.drop_eq_getElem_cons (List.getElem?_eq_some_iff.1 h).1, (List.getElem?_eq_some_iff.1 h).2]
/- The chances of a text. -/
theorem chances_rise (g : Int → Nat) (s : ByteArray) : (lChances g s).Pairwise (fun x y => x.1 < y.1) ∧ (∀ y ∈ lChances g s, 0 < y.1) ∧ ∀ y ∈ lChances g s, PlaceAt s y.1 := by
  have hsub : ∀ (c : List Int) (P : List Nat) (i : Nat), List.Sublist ((lPick c i P).map fun x => x.1) P := by
    intro c P
    induction P with
    | nil => intro i; simp [lPick]
    | cons a r ih =>
      intro i
      rw [lPick, List.map_append]
      split
      · exact (ih (i + 1)).cons_cons a
      · exact (ih (i + 1)).cons a
  have h1 : ((runesP s).map (fun x => x.2.1)).Pairwise (· < ·) := by
    rw [List.pairwise_map]; exact runes_rise' s
  have h2 := h1.sublist (hsub (lCls g s) _ 0)
  rw [List.pairwise_map] at h2
  have h3 : ∀ y ∈ lPick (lCls g s) 0 ((runesP s).map (fun x => x.2.1)), 0 < y.1 ∧ y.1 < s.size ∧ PlaceAt s y.1 := fun y hy => by
    obtain ⟨k, e1, e2, _, _⟩ := (lPick_mem (a := y.1) (b := y.2)).1 hy
    rw [List.getElem?_map] at e1
    obtain ⟨x, hx, e⟩ := Option.map_eq_some_iff.1 e1
    have hm := List.mem_of_getElem? hx
    have hb := runesP_bd x hm
    have hk := (List.getElem?_eq_some_iff.1 hx).1
    have hlt : (runesP s)[0].2.1 < (runesP s)[k].2.1 := List.pairwise_iff_getElem.1 (runes_rise' s) 0 k (by omega) hk (by omega)
    rw [(List.getElem?_eq_some_iff.1 hx).2] at hlt
    exact ⟨by omega, by omega, .inr ⟨x, hm, e⟩⟩
  unfold lChances
  refine ⟨?_, fun y hy => ?_, fun y hy => ?_⟩
  · rw [List.pairwise_append]
    refine ⟨h2, ?_, fun x hx y hy => ?_⟩
    · split
      · exact List.Pairwise.nil
      · exact List.pairwise_singleton _ _
    · split at hy
      · simp at hy
      · rw [List.mem_singleton] at hy
        subst hy
        exact (h3 x hx).2.1
  · rcases List.mem_append.1 hy with h | h
    · exact (h3 y h).1
    · split at h
      · simp at h
      · rw [List.mem_singleton] at h; subst h; simp only; omega
  · rcases List.mem_append.1 hy with h | h
    · exact (h3 y h).2.2
    · split at h
      · simp at h
      · rw [List.mem_singleton] at h; subst h; exact .inl rfl
/-- The lines of a text. -/
def linesP (g : Int → Nat) (s : ByteArray) : List (Nat × Nat) := linP 0 (lChances g s)
theorem lines_end (g : Int → Nat) (s : ByteArray) : lastP 0 (linesP g s) = s.size := by
  unfold linesP lChances
  split
  · rename_i h
    have hr : runesP s = [] := by unfold runesP; rw [h]; rfl
    rw [hr, h]; rfl
  · exact linP_last _ 0 _
theorem lines_in {g : Int → Nat} {s : ByteArray} {x : Nat × Nat} (hx : x ∈ linesP g s) : x.1 < x.2 ∧ x.2 ≤ s.size ∧
    ∀ (i : Nat) (p q : Int), (lCls g (s.extract x.1 x.2))[i]? = some p → (lCls g (s.extract x.1 x.2))[i + 1]? = some q → p ≠ 1 ∧ p ≠ 3 ∧ (p = 2 → q = 3 ∧ i + 2 = (lCls g (s.extract x.1 x.2)).length) := by
  obtain ⟨h1, h2, h3⟩ := chances_rise g s
  obtain ⟨_, k2, k3, k4, k5⟩ := linP_mem _ 0 h2 h1 x hx
  have hb := h3 _ k4
  have ha : PlaceAt s x.1 := by
    rcases k3 with k3 | k3
    · rw [k3]
      rcases Nat.eq_zero_or_pos s.size with h0 | h0
      · exact .inl h0.symm
      · have hc := runesP_contig s
        cases hr : runesP s with
        | nil => rw [hr] at hc; have : 0 = s.size := hc; omega
        | cons y r => rw [hr] at hc; exact .inr ⟨y, by rw [hr]; simp, hc.1⟩
    · exact h3 _ k3
  exact ⟨k2, hb.le, fun i p q hp hq => line_inside (Nat.le_of_lt k2) ha hb k5 hp hq⟩
end Go.Proofs.YtlbfbkdcjdeagaaGreatDoor

/-
  Pieces of a text, plain: between bounds, in their order.
-/
namespace Go.Proofs.YtlbfbkdcjdeagaaGreatDoor

/-- The pieces between bounds. -/
def piecesF : List Nat → List (Nat × Nat)
  | a :: b :: r => (a, b) :: piecesF (b :: r)
  | _ => []
theorem piecesF_len : ∀ (L : List Nat), (piecesF L).length = L.length - 1
  | [] => rfl
  | [_] => rfl
  | a :: b :: r => by rw [piecesF, List.length_cons, piecesF_len (b :: r)]; simp
theorem piecesF_at : ∀ (L : List Nat) (k x y : Nat), L[k]? = some x → L[k + 1]? = some y → (piecesF L)[k]? = some (x, y)
  | [], _, _, _, h, _ => by simp at h
  | [_], k, _, _, _, h => by simp at h
  | a :: b :: r, 0, x, y, hx, hy => by
    simp only [List.getElem?_cons_zero, List.getElem?_cons_succ, Option.some.injEq] at hx hy
    subst hx hy
    rfl
  | a :: b :: r, k + 1, x, y, hx, hy => by
    rw [piecesF, List.getElem?_cons_succ]
    exact piecesF_at (b :: r) k x y (by simpa using hx) (by simpa using hy)
theorem piecesF_le {s : ByteArray} : ∀ {L : List Nat}, L.Pairwise (· < ·) → (∀ a ∈ L, a ≤ s.size) → ∀ x ∈ piecesF L, x.1 ≤ x.2 ∧ x.2 ≤ s.size
  | [], _, _, x, h => by simp [piecesF] at h
  | [_], _, _, x, h => by simp [piecesF] at h
  | a :: b :: r, hp, hz, x, h => by
    rw [List.pairwise_cons] at hp
    rw [piecesF] at h
    rcases List.mem_cons.1 h with rfl | h
    · exact ⟨Nat.le_of_lt (hp.1 b (by simp)), hz b (by simp)⟩
    · exact piecesF_le hp.2 (fun c hc => hz c (by simp [hc])) x h
/-- A piece that lies in the text; else the empty one. -/
def clP (s : ByteArray) (x : Nat × Nat) : Nat × Nat := if x.1 ≤ x.2 ∧ x.2 ≤ s.size then x else (0, 0)
theorem clP_le (s : ByteArray) (x : Nat × Nat) : (clP s x).1 ≤ (clP s x).2 ∧ (clP s x).2 ≤ s.size := by
  unfold clP
  split
  · assumption
  · exact ⟨Nat.le_refl _, Nat.zero_le _⟩
theorem clP_in {s : ByteArray} {x : Nat × Nat} (h : x.1 ≤ x.2 ∧ x.2 ≤ s.size) : clP s x = x := if_pos h
theorem wPick_sub (c : List Int) : ∀ (l : List Nat) (i : Nat), List.Sublist (wPick c i l) l
  | [], _ => List.Sublist.refl _
  | a :: r, i => by
    rw [wPick]
    split
    · exact (wPick_sub c r (i + 1)).cons_cons a
    · exact (wPick_sub c r (i + 1)).cons a
theorem wBounds_rise (g : Int → Nat) (s : ByteArray) : (wBounds g s).Pairwise (· < ·) := by
  have h1 : ((runesP s).map (fun x => x.2.1)).Pairwise (· < ·) := by
    rw [List.pairwise_map]; exact runes_rise s
  have h2 := h1.sublist (wPick_sub (wCls g s) _ 0)
  unfold wBounds
  split
  · rw [List.append_nil]; exact h2
  · rw [List.pairwise_append]
    refine ⟨h2, List.pairwise_singleton _ _, fun a ha b hb => ?_⟩
    rw [List.mem_singleton] at hb
    subst hb
    obtain ⟨x, hx, rfl⟩ := List.mem_map.1 ((wPick_sub _ _ 0).mem ha)
    have := runesP_bd x hx
    omega
theorem wBounds_le (g : Int → Nat) (s : ByteArray) : ∀ a ∈ wBounds g s, a ≤ s.size := fun a ha => by
  unfold wBounds at ha
  rcases List.mem_append.1 ha with h | h
  · obtain ⟨x, hx, rfl⟩ := List.mem_map.1 ((wPick_sub _ _ 0).mem h)
    have := runesP_bd x hx
    omega
  · split at h
    · simp at h
    · simp at h; omega
theorem wBounds_len (g : Int → Nat) (s : ByteArray) : (wBounds g s).length ≤ s.size + 1 := by
  unfold wBounds
  rw [List.length_append]
  have h1 := (wPick_sub (wCls g s) ((runesP s).map (fun x => x.2.1)) 0).length_le
  rw [List.length_map] at h1
  have h2 := runesP_len s
  have h3 : (if s.size = 0 then [] else [s.size]).length ≤ 1 := by split <;> simp
  omega
end Go.Proofs.YtlbfbkdcjdeagaaGreatDoor

/-
  kerfref04: Name, walked.
-/
namespace Go.Proofs.YtlbfbkdcjdeagaaGreatDoor
open Go.RowKit Go.Maps

set_option maxRecDepth 100000 in
set_option maxHeartbeats 4000000 in
theorem vName_any (l : List UInt8) (w : World) (hs : l.length ≤ 9223372036854775807) : Calls Tryz.prog 127 #[.string (bytesOf l)] w fun e w' => e = .returned (.bool (nameL l)) ∧ Below w.heap.size w w' := by
  have hsz : (bytesOf l).size = l.length := bytesOf_size l
  go_enter Tryz.func127, Tryz.ntmps127
  go_wp2
  have hbw : Below w.heap.size w w := Below.refl _ _
  go_loop [3] (fun i => ∃ k : Nat, i = .int .i64 k ∧ k ≤ l.length ∧ Hid (nameU (l.take k) = true)) (fun i => l.length - (intOf i).toNat)
  case atStart => exact ⟨0, rfl, by omega, rfl⟩
  case round =>
    obtain ⟨k, rfl, hk, Hm⟩ := hrel
    by_cases hlt : k < l.length
    · have hkl : k < (bytesOf l).size := by rw [hsz]; exact hlt
      have hc := index_at (bytesOf l) k k rfl hkl
      obtain ⟨c, hce⟩ : ∃ c, (bytesOf l)[k]'hkl = c := ⟨_, rfl⟩
      have Hc : Hid (l[k]? = some c) := Lib.hid (by have := get_list hkl; rw [bytesOf_list, hce] at this; exact this)
      have hcc : (((bytesOf l)[k]'hkl).toNat : Int) = (c.toNat : Int) := by rw [hce]
      rw [hce] at hc
      clear hce
      have HN := Lib.hid (nameU_next Hc.out Hm.out)
      have HE : Hid (nameU (l.take (k + 1)) = false → nameL l = false) := Lib.hid (fun h => by rw [nameL_eq, nameU_take h, Bool.false_and])
      have hc0 : 0 ≤ (c.toNat : Int) := by omega
      have hc255 : (c.toNat : Int) ≤ 255 := by have := c.toNat_lt; omega
      have HLT : Hid ((65 ≤ (c.toNat : Int) ∧ (c.toNat : Int) ≤ 90) ∨ (97 ≤ (c.toNat : Int) ∧ (c.toNat : Int) ≤ 122) → letB c = true ∧ partB c = true) := Lib.hid (fun h => ⟨letB_t (by omega), partB_t (by omega)⟩)
      have HLF : Hid (¬ ((65 ≤ (c.toNat : Int) ∧ (c.toNat : Int) ≤ 90) ∨ (97 ≤ (c.toNat : Int) ∧ (c.toNat : Int) ≤ 122)) → letB c = false) := Lib.hid (fun h => letB_f (by omega))
      have HPT : Hid ((48 ≤ (c.toNat : Int) ∧ (c.toNat : Int) ≤ 57) ∨ (c.toNat : Int) = 95 → partB c = true) := Lib.hid (fun h => partB_t (by omega))
      have HPF : Hid (¬ ((65 ≤ (c.toNat : Int) ∧ (c.toNat : Int) ≤ 90) ∨ (97 ≤ (c.toNat : Int) ∧ (c.toNat : Int) ≤ 122) ∨ (48 ≤ (c.toNat : Int) ∧ (c.toNat : Int) ≤ 57) ∨ (c.toNat : Int) = 95) → partB c = false) := Lib.hid (fun h => partB_f (by omega))
      generalize (c.toNat : Int) = z at hc hcc hc0 hc255 HLT HLF HPT HPF
      rcases Nat.eq_zero_or_pos k with rfl | h0
      · rcases (by omega : (65 ≤ z ∧ z ≤ 90) ∨ (97 ≤ z ∧ z ≤ 122) ∨ (z < 65 ∨ (90 < z ∧ z < 97) ∨ 122 < z)) with ⟨hq, hq'⟩ | ⟨hq, hq'⟩ | hq
        iterate 2
          · have HV : Hid (nameU (l.take (0 + 1)) = true) := Lib.hid (by rw [HN.out, if_pos rfl]; exact (HLT.out (by omega)).1)
            clear HLT HLF HPT HPF HN HE
            try first | (have d65 : decide (65 ≤ z) = true := decide_eq_true (by omega)) | (have d65 : decide (65 ≤ z) = false := decide_eq_false (by omega))
            try first | (have d90 : decide (z ≤ 90) = true := decide_eq_true (by omega)) | (have d90 : decide (z ≤ 90) = false := decide_eq_false (by omega))
            try first | (have d97 : decide (97 ≤ z) = true := decide_eq_true (by omega)) | (have d97 : decide (97 ≤ z) = false := decide_eq_false (by omega))
            try first | (have d122 : decide (z ≤ 122) = true := decide_eq_true (by omega)) | (have d122 : decide (z ≤ 122) = false := decide_eq_false (by omega))
            try first | (have d48 : decide (z < 48) = true := decide_eq_true (by omega)) | (have d48 : decide (z < 48) = false := decide_eq_false (by omega))
            try first | (have d57 : decide (57 < z) = true := decide_eq_true (by omega)) | (have d57 : decide (57 < z) = false := decide_eq_false (by omega))
            try first | (have d95 : (z != 95) = true := bne_iff_ne.2 (by omega)) | (have d95 : (z != 95) = false := by rw [bne_eq_false_iff_eq]; omega)
            go_wp2
            refine ⟨⟨0 + 1, by go_num, by omega, HV⟩, ?_⟩
            simp [intOf]; omega
        · have HV : Hid (nameL l = false) := Lib.hid (HE.out (by rw [HN.out, if_pos rfl]; exact HLF.out (by omega)))
          clear HLT HLF HPT HPF HN HE
          rcases hq with hq | ⟨hq, hq'⟩ | hq
          all_goals
            try first | (have d65 : decide (65 ≤ z) = true := decide_eq_true (by omega)) | (have d65 : decide (65 ≤ z) = false := decide_eq_false (by omega))
            try first | (have d90 : decide (z ≤ 90) = true := decide_eq_true (by omega)) | (have d90 : decide (z ≤ 90) = false := decide_eq_false (by omega))
            try first | (have d97 : decide (97 ≤ z) = true := decide_eq_true (by omega)) | (have d97 : decide (97 ≤ z) = false := decide_eq_false (by omega))
            try first | (have d122 : decide (z ≤ 122) = true := decide_eq_true (by omega)) | (have d122 : decide (z ≤ 122) = false := decide_eq_false (by omega))
            try first | (have d48 : decide (z < 48) = true := decide_eq_true (by omega)) | (have d48 : decide (z < 48) = false := decide_eq_false (by omega))
            try first | (have d57 : decide (57 < z) = true := decide_eq_true (by omega)) | (have d57 : decide (57 < z) = false := decide_eq_false (by omega))
            try first | (have d95 : (z != 95) = true := bne_iff_ne.2 (by omega)) | (have d95 : (z != 95) = false := by rw [bne_eq_false_iff_eq]; omega)
            go_wp2
            go_ret
            exact ⟨by rw [HV.out]; rfl, hbw⟩
      · have hk0 : ((k : Int) == 0) = false := beq_eq_false_iff_ne.2 (by omega)
        rcases (by omega : (65 ≤ z ∧ z ≤ 90) ∨ (97 ≤ z ∧ z ≤ 122) ∨ (48 ≤ z ∧ z ≤ 57) ∨ z = 95 ∨ (z < 48 ∨ (57 < z ∧ z < 65) ∨ (90 < z ∧ z < 95) ∨ z = 96 ∨ 122 < z)) with ⟨hq, hq'⟩ | ⟨hq, hq'⟩ | ⟨hq, hq'⟩ | hq | hq
        iterate 4
          · have HV : Hid (nameU (l.take (k + 1)) = true) := Lib.hid (by rw [HN.out, if_neg (by omega)]; first | exact (HLT.out (by omega)).2 | exact HPT.out (by omega))
            clear HLT HLF HPT HPF HN HE
            try first | (have d65 : decide (65 ≤ z) = true := decide_eq_true (by omega)) | (have d65 : decide (65 ≤ z) = false := decide_eq_false (by omega))
            try first | (have d90 : decide (z ≤ 90) = true := decide_eq_true (by omega)) | (have d90 : decide (z ≤ 90) = false := decide_eq_false (by omega))
            try first | (have d97 : decide (97 ≤ z) = true := decide_eq_true (by omega)) | (have d97 : decide (97 ≤ z) = false := decide_eq_false (by omega))
            try first | (have d122 : decide (z ≤ 122) = true := decide_eq_true (by omega)) | (have d122 : decide (z ≤ 122) = false := decide_eq_false (by omega))
            try first | (have d48 : decide (z < 48) = true := decide_eq_true (by omega)) | (have d48 : decide (z < 48) = false := decide_eq_false (by omega))
            try first | (have d57 : decide (57 < z) = true := decide_eq_true (by omega)) | (have d57 : decide (57 < z) = false := decide_eq_false (by omega))
            try first | (have d95 : (z != 95) = true := bne_iff_ne.2 (by omega)) | (have d95 : (z != 95) = false := by rw [bne_eq_false_iff_eq]; omega)
            go_wp2
            refine ⟨⟨k + 1, by go_num, by omega, HV⟩, ?_⟩
            simp [intOf]; omega
        · have HV : Hid (nameL l = false) := Lib.hid (HE.out (by rw [HN.out, if_neg (by omega)]; exact HPF.out (by omega)))
          clear HLT HLF HPT HPF HN HE
          rcases hq with hq | ⟨hq, hq'⟩ | ⟨hq, hq'⟩ | hq | hq
          all_goals
            try first | (have d65 : decide (65 ≤ z) = true := decide_eq_true (by omega)) | (have d65 : decide (65 ≤ z) = false := decide_eq_false (by omega))
            try first | (have d90 : decide (z ≤ 90) = true := decide_eq_true (by omega)) | (have d90 : decide (z ≤ 90) = false := decide_eq_false (by omega))
            try first | (have d97 : decide (97 ≤ z) = true := decide_eq_true (by omega)) | (have d97 : decide (97 ≤ z) = false := decide_eq_false (by omega))
            try first | (have d122 : decide (z ≤ 122) = true := decide_eq_true (by omega)) | (have d122 : decide (z ≤ 122) = false := decide_eq_false (by omega))
            try first | (have d48 : decide (z < 48) = true := decide_eq_true (by omega)) | (have d48 : decide (z < 48) = false := decide_eq_false (by omega))
            try first | (have d57 : decide (57 < z) = true := decide_eq_true (by omega)) | (have d57 : decide (57 < z) = false := decide_eq_false (by omega))
            try first | (have d95 : (z != 95) = true := bne_iff_ne.2 (by omega)) | (have d95 : (z != 95) = false := by rw [bne_eq_false_iff_eq]; omega)
            go_wp2
            go_ret
            exact ⟨by rw [HV.out]; rfl, hbw⟩
    · have HE : Hid (nameL l = decide (1 ≤ l.length ∧ l.length ≤ 32)) := Lib.hid (by rw [nameL_eq, show nameU l = true by have := Hm.out; rwa [List.take_of_length_le (by omega)] at this, Bool.true_and])
      rcases (by omega : l.length = 0 ∨ (1 ≤ l.length ∧ l.length ≤ 32) ∨ 32 < l.length) with h | ⟨h, h'⟩ | h
      all_goals
        go_wp2
        go_ret
        exact ⟨ret_bool (by rw [HE.out]; first | exact (decide_eq_false (by omega)).symm | exact (decide_eq_true (by omega)).symm | (rw [decide_eq_decide]; omega)), hbw⟩

end Go.Proofs.YtlbfbkdcjdeagaaGreatDoor

/-
  PLAIN, for the walks of kerfref04: a rune in quotes by the document's word; the scan of a line, step by step; trimmed from both ends.
-/
namespace Go.Proofs.YtlbfbkdcjdeagaaGreatDoor

theorem runeAt_app : ∀ (p l : List UInt8) (a : Nat), runeAt (bytesOf (p ++ l)) (p.length + a) = runeAt (bytesOf l) a
  | [], l, a => by rw [List.nil_append, List.length_nil, Nat.zero_add]
  | c :: p, l, a => by rw [List.cons_append, List.length_cons, show p.length + 1 + a = (p.length + a) + 1 by omega, runeAt_sh]; exact runeAt_app p l a
theorem runeAt_drop (s : ByteArray) (a b : Nat) (h : a ≤ s.size) : runeAt s (a + b) = runeAt (bytesOf (s.data.toList.drop a)) b := by
  have h1 := runeAt_app (s.data.toList.take a) (s.data.toList.drop a) b
  rw [List.take_append_drop, bytesOf_data, List.length_take, size_data, Nat.min_eq_left h] at h1
  exact h1
/-- The document's word on a rune in quotes. -/
theorem quoted_qt (s : ByteArray) (a : Nat) (h : a ≤ s.size) : match qtL (s.data.toList.drop a) with
    | some k => (quotedP s a).2.2 = true ∧ (quotedP s a).2.1 + 2 = k
    | none => (quotedP s a).2.2 = false := by
  unfold quotedP
  cases hd : s.data.toList.drop a with
  | nil =>
    have : (rest s a).head? = none := by unfold rest; rw [hd]; rfl
    rw [if_neg (by rw [this]; simp)]; rfl
  | cons c r =>
    have h1 := runeAt_drop s a 1 h
    rw [hd] at h1
    rw [qtS_cons, ← h1]
    have h2 : (rest s a).head? = some c := by unfold rest; rw [hd]; rfl
    have h3 : (rest s (a + 1 + (runeAt s (a + 1)).2)).head? = r[(runeAt s (a + 1)).2]? := by
      unfold rest
      rw [Nat.add_assoc, ← List.drop_drop, hd, Nat.add_comm 1, List.drop_succ_cons, List.head?_drop]
    rw [h2, h3]
    by_cases hc : c = 39 ∧ (runeAt s (a + 1)).2 ≠ 0 ∧ r[(runeAt s (a + 1)).2]? = some 39
    · rw [if_pos hc, if_pos ⟨by rw [hc.1], hc.2⟩]
      exact ⟨rfl, rfl⟩
    · rw [if_neg hc, if_neg (fun k => hc ⟨by injection k.1, k.2⟩)]

def cutD (l : List UInt8) (i : Nat) (semi : Option Nat) : Nat × Option Nat := cutGo l.length l i semi
theorem cutD_fuel {f : Nat} {l : List UInt8} (i : Nat) (semi : Option Nat) (h : l.length ≤ f) : cutGo f l i semi = cutD l i semi := by
  unfold cutD
  rw [cutGo_eq f l i semi h, cutGo_eq l.length l i semi (Nat.le_refl _)]
/-- How far the scan has come. -/
def CutAt (L : List UInt8) (i : Nat) (semi : Option Nat) : Prop := i ≤ L.length ∧ cutD (L.drop i) i semi = cutD L 0 none ∧ ∀ k, semi = some k → k ≤ i
theorem cutAt_first (L : List UInt8) : CutAt L 0 none := ⟨by omega, by rw [List.drop_zero], fun k h => by cases h⟩
theorem cutAt_qt {L : List UInt8} {i k : Nat} {semi : Option Nat} (h : CutAt L i semi) (hq : qtL (L.drop i) = some k) : CutAt L (i + k) semi := by
  have hk := qtL_some hq
  rw [List.length_drop] at hk
  refine ⟨by omega, ?_, fun j hj => by have := h.2.2 j hj; omega⟩
  rw [← h.2.1]
  cases hd : L.drop i with
  | nil => rw [hd] at hq; cases hq
  | cons x r =>
    rw [hd] at hq
    unfold cutD
    rw [List.length_cons, cutGo]
    simp only [hq]
    have h2 : (x :: r).drop k = L.drop (i + k) := by rw [← hd, List.drop_drop]
    rw [h2]
    have h3 : (L.drop (i + k)).length ≤ r.length := by
      have : (L.drop i).length = r.length + 1 := by rw [hd]; rfl
      rw [List.length_drop] at this ⊢; omega
    rw [cutD_fuel (i + k) semi h3]; rfl
section
variable {L : List UInt8} {i : Nat} {semi : Option Nat} {x : UInt8} (h : CutAt L i semi) (hx : L[i]? = some x) (hq : qtL (L.drop i) = none)
include h hx hq
theorem cutAt_step : cutD L 0 none = if x = 35 then (i, semi) else if x = 59 ∧ semi = none then cutD (L.drop (i + 1)) (i + 1) (some i) else cutD (L.drop (i + 1)) (i + 1) semi := by
  rw [← h.2.1, drop_at hx]
  rw [drop_at hx] at hq
  unfold cutD
  rw [List.length_cons, cutGo]
  simp only [hq]
theorem cutAt_hash (he : x = 35) : cutD L 0 none = (i, semi) := by rw [cutAt_step h hx hq, if_pos he]
theorem cutAt_semi (he : x = 59) (hs : semi = none) : CutAt L (i + 1) (some i) :=
  ⟨(List.getElem?_eq_some_iff.1 hx).1, by rw [cutAt_step h hx hq, if_neg (by rw [he]; decide), if_pos ⟨he, hs⟩], fun k hk => by injection hk with hk; omega⟩
theorem cutAt_go (he : x ≠ 35) (hs : ¬ (x = 59 ∧ semi = none)) : CutAt L (i + 1) semi :=
  ⟨(List.getElem?_eq_some_iff.1 hx).1, by rw [cutAt_step h hx hq, if_neg he, if_neg hs], fun k hk => by have := h.2.2 k hk; omega⟩
end
theorem cutAt_end {L : List UInt8} {i : Nat} {semi : Option Nat} (h : CutAt L i semi) (hi : ¬ i < L.length) : cutD L 0 none = (L.length, semi) := by
  rw [← h.2.1, List.drop_of_length_le (by omega)]
  have : i = L.length := by have := h.1; omega
  rw [← this]; rfl
theorem cutD_is (L : List UInt8) : cutD L 0 none = (hashP L, findP 59 (L.take (hashP L))) := by
  unfold cutD
  rw [cutGo_eq L.length L 0 none (Nat.le_refl _), Nat.zero_add]
  congr 1
  cases findP 59 (L.take (hashP L)) <;> rfl

theorem ext_bytes (l : List UInt8) (a : Nat) : (bytesOf l).extract a (bytesOf l).size = bytesOf (l.drop a) := by
  apply ByteArray.ext; apply Array.toList_inj.1
  rw [rest_extract, bytesOf_list]; unfold rest; rw [bytesOf_list]
theorem ext_bytes0 (l : List UInt8) (a : Nat) : (bytesOf l).extract 0 a = bytesOf (l.take a) := by
  apply ByteArray.ext; apply Array.toList_inj.1
  rw [Lib.extract_data, bytesOf_list, bytesOf_list]; simp
theorem ext_bytes2 (l : List UInt8) (a b : Nat) : (bytesOf l).extract a b = bytesOf ((l.drop a).take (b - a)) := by
  apply ByteArray.ext; apply Array.toList_inj.1
  rw [Lib.extract_data, bytesOf_list, bytesOf_list]
theorem trim_last {l : List UInt8} {c : UInt8} (hl : l.getLast? = some c) : (blkB c = true → trimR l = trimR (l.take (l.length - 1))) ∧ (blkB c = false → trimR l = l) := by
  have hs : l = l.dropLast ++ [c] := by
    rcases List.eq_nil_or_concat l with rfl | ⟨o, y, rfl⟩
    · cases hl
    · simp at hl; subst hl; simp
  have hd : l.take (l.length - 1) = l.dropLast := by rw [List.dropLast_eq_take]
  rw [hd]
  constructor
  · intro h
    conv => lhs; rw [hs]
    exact trimR_app (by intro d hd; simp at hd; subst hd; exact h)
  · intro h
    unfold trimR
    rw [hs, List.reverse_append]
    rw [show [c].reverse ++ l.dropLast.reverse = c :: l.dropLast.reverse from rfl, dropWhile_stop h]
    simp
theorem trimR_nil : trimR [] = [] := rfl
theorem drop_blank {c : UInt8} {r : List UInt8} (h : blkB c = true) : (c :: r).dropWhile blkB = r.dropWhile blkB := by rw [List.dropWhile_cons, if_pos h]
end Go.Proofs.YtlbfbkdcjdeagaaGreatDoor

/-
  kerfref02.Hex: a rune's number in hexadecimal digits.
-/
namespace Go.Proofs.YtlbfbkdcjdeagaaGreatDoor
open Go.RowKit

theorem hexW_succ (j n : Nat) : hexW (j + 1) n = hexD (n / 16 ^ j % 16) :: hexW j n := by
  induction j generalizing n with
  | zero => simp [hexW]
  | succ j ih => rw [hexW, ih, hexW, Nat.div_div_eq_div_mul, ← Nat.pow_succ']; rfl
theorem digits_at (d : Nat) (h : d < 16) : ((⟨#[48, 49, 50, 51, 52, 53, 54, 55, 56, 57, 65, 66, 67, 68, 69, 70]⟩ : ByteArray).extract d (d + 1)).data.toList = [hexD d] := by
  rcases (by omega : d = 0 ∨ d = 1 ∨ d = 2 ∨ d = 3 ∨ d = 4 ∨ d = 5 ∨ d = 6 ∨ d = 7 ∨ d = 8 ∨ d = 9 ∨ d = 10 ∨ d = 11 ∨ d = 12 ∨ d = 13 ∨ d = 14 ∨ d = 15) with rfl | rfl | rfl | rfl | rfl | rfl | rfl | rfl | rfl | rfl | rfl | rfl | rfl | rfl | rfl | rfl <;> rfl
/-- How far Hex has come. -/
def HexAt (r j x : Nat) (t : ByteArray) : Prop := x = r / 16 ^ j ∧ t.data.toList = hexW j r ∧ j ≤ hexK r
theorem hexAt_next {r j x d q : Nat} {t : ByteArray} (h : HexAt r j x t) (hr : r ≤ 1114111) (hc : 0 < x ∨ j < 4) (hd : x = 16 * q + d) (h16 : d < 16) :
    HexAt r (j + 1) q ((⟨#[48, 49, 50, 51, 52, 53, 54, 55, 56, 57, 65, 66, 67, 68, 69, 70]⟩ : ByteArray).extract d (d + 1) ++ t) := by
  obtain ⟨rfl, h2, h3⟩ := h
  refine ⟨by rw [Nat.pow_succ, ← Nat.div_div_eq_div_mul]; omega, ?_, ?_⟩
  · rw [ByteArray.data_append, Array.toList_append, digits_at d h16, h2, hexW_succ]
    have : r / 16 ^ j % 16 = d := by omega
    rw [this]; rfl
  · unfold hexK at h3 ⊢
    rcases hc with hc | hc
    · rcases (by omega : j < 4 ∨ j = 4 ∨ j = 5 ∨ 6 ≤ j) with h | rfl | rfl | h
      · split <;> (try split) <;> omega
      · have : 0 < r / 65536 := hc
        split <;> (try split) <;> omega
      · have : 0 < r / 1048576 := hc
        split <;> (try split) <;> omega
      · have h7 : 16 ^ 6 ≤ 16 ^ j := Nat.pow_le_pow_right (by omega) h
        have h8 : (16 : Nat) ^ 6 = 16777216 := by decide
        have h6 : r / 16 ^ j = 0 := Nat.div_eq_of_lt (Nat.lt_of_lt_of_le (show r < 16 ^ 6 by rw [h8]; omega) h7)
        omega
    · split <;> (try split) <;> omega
theorem hexAt_end {r j : Nat} {t : ByteArray} (h : HexAt r j 0 t) (h4 : 4 ≤ j) : t = ⟨(hexS r).toArray⟩ := by
  obtain ⟨h1, h2, h3⟩ := h
  have hj : j = hexK r := by
    unfold hexK at h3 ⊢
    have hlt : r < 16 ^ j := by
      rcases Nat.lt_or_ge r (16 ^ j) with h | h
      · exact h
      · have := Nat.div_pos h (Nat.pow_pos (by decide : 0 < 16)); omega
    rcases (by omega : j = 4 ∨ j = 5 ∨ 6 ≤ j) with rfl | rfl | h
    · have : r < 65536 := hlt
      rw [if_pos this]
    · have : r < 1048576 := hlt
      split at h3
      · omega
      · rw [if_neg (by assumption), if_pos this]
    · have h9 : (if r < 65536 then 4 else if r < 1048576 then 5 else 6) ≤ 6 := by split <;> (try split) <;> omega
      have h10 : j = 6 := by omega
      subst h10
      by_cases h11 : r < 65536
      · rw [if_pos h11] at h3; omega
      · by_cases h12 : r < 1048576
        · rw [if_neg h11, if_pos h12] at h3; omega
        · rw [if_neg h11, if_neg h12]
  subst hj
  apply ByteArray.ext
  rw [← Array.toList_inj, h2]; rfl
theorem hexAt_len {r j x : Nat} {t : ByteArray} (h : HexAt r j x t) : t.size = j := by rw [← size_data, h.2.1, hexW_len]

end Go.Proofs.YtlbfbkdcjdeagaaGreatDoor

/-
  strings.Builder: copyCheck, WriteString (the shelf's layings fall at this dump).
-/
namespace Go.Proofs.YtlbfbkdcjdeagaaGreatDoor
open Go.RowKit

theorem bldSize : (Tryz.prog.info? 181).map (·.size) = some 2 := by kernel_rfl
theorem bldLies : liesAt Tryz.prog Tryz.prog.depth 181 (2 / Tryz.prog.cellsOf 181) 0 181 1 = true := by kernel_rfl
theorem infoU8 : (Tryz.prog.info? 5).map (fun i => (i.zero, i.size, i.bytes)) = some (some (.int .u8 0), 1, 1) := by kernel_rfl

set_option maxRecDepth 100000 in
set_option maxHeartbeats 1000000 in
theorem copyCheck_fresh (b : Nat) (w : World) (h0 : w.cell? ⟨b, 0, none⟩ = some (.pointer none)) (hsh : w.shape? b = some (181, 2)) (hfz : w.frozen? ⟨b, 0, none⟩ = false) :
    Calls Tryz.prog 209 #[.pointer (some ⟨b, 0, none⟩)] w fun e w' => e = .returned (.tuple #[]) ∧ w.setCell ⟨b, 0, none⟩ (.pointer (some ⟨b, 0, none⟩)) = w' := by
  obtain ⟨j, hj, hjs⟩ := Option.map_eq_some_iff.1 bldSize
  go_enter Tryz.func209, Tryz.ntmps209
  go_wp2
  rw [Lib.run_to_unsafe w ⟨b, 0, none⟩ Tryz.underlying179 Tryz.underlying217 hj (by rw [hjs]; decide) hsh (Nat.zero_lt_succ 1)]
  simp only [Result.andThen]
  rw [Oper.upon_value]
  go_wp2
  rw [run_callFunc_extern Tryz.func231 (by kernel_rfl) (by kernel_rfl) (by kernel_rfl) (e := Extern.AbiNoEscape.same) (by kernel_rfl)]
  rw [Lib.run_noEscape]
  simp only [Result.andThen]
  rw [Oper.upon_value]
  go_wp2
  rw [Lib.run_from_unsafe w ⟨b, 0, none⟩ Tryz.underlying217 Tryz.underlying179 hj hsh bldLies]
  simp only [Result.andThen]
  rw [Oper.upon_value]
  go_wp2
  go_end0
  exact ⟨rfl, rfl⟩
set_option maxRecDepth 100000 in
set_option maxHeartbeats 1000000 in
theorem copyCheck_used (b : Nat) (w : World) (h0 : w.cell? ⟨b, 0, none⟩ = some (.pointer (some ⟨b, 0, none⟩))) :
    Calls Tryz.prog 209 #[.pointer (some ⟨b, 0, none⟩)] w fun e w' => e = .returned (.tuple #[]) ∧ w = w' := by
  obtain ⟨j, hj, _⟩ := Option.map_eq_some_iff.1 bldSize
  go_enter Tryz.func209, Tryz.ntmps209
  go_wp2
  rw [Lib.run_neq_ptr_same w _ Tryz.underlying179 hj]
  go_wp2
  go_end0
  exact ⟨rfl, rfl⟩
/-- A builder at block b that holds the bytes l; its row lies at B or beyond. -/
def Bld (w : World) (b B : Nat) (l : List UInt8) : Prop :=
  ∃ p v, (p = .pointer none ∨ p = .pointer (some ⟨b, 0, none⟩)) ∧ w.heap[b]? = some (.cells #[p, v] 181 (0, 0)) ∧ w.ownsRowF B 5 1 v l.length (Lib.byteCells l)
theorem Bld.new (w : World) (B : Nat) : Bld (w.alloc (.cells #[.pointer none, .slice none 0 0] 181)) w.heap.size B [] :=
  ⟨_, _, .inl rfl, heap_alloc_new w _, World.ownsRowF_nil _ _ _ _⟩
theorem Bld.lt {w : World} {b B : Nat} {l : List UInt8} (h : Bld w b B l) : b < w.heap.size := by
  obtain ⟨p, v, _, hb, _⟩ := h; exact (Array.getElem?_eq_some_iff.1 hb).1
theorem Bld.row_ne {w : World} {b B : Nat} {n : Nat} {xs : List Value} {cs : Array Value} {v : Value} (hown : w.ownsRowF B 5 1 v n xs) (hb : w.heap[b]? = some (.cells cs 181 (0, 0))) : v.ownBlock ≠ some b := Lib.ownBlock_neF hown hb (by decide)
theorem Bld.keep {w w' : World} {b B : Nat} {l : List UInt8} (h : Bld w b B l) (hs : ∀ (k : Nat) (o : Obj), w.heap[k]? = some o → o.isCells = true → k = b ∨ B ≤ k → w'.heap[k]? = some o) : Bld w' b B l := by
  obtain ⟨p, v, hp, hb, hown⟩ := h
  refine ⟨p, v, hp, hs b _ hb rfl (.inl rfl), hown.1, ?_⟩
  rcases hown.2 with h0 | ⟨g, cap, cur, fz, hv, hg, hh, r⟩
  · exact .inl h0
  · exact .inr ⟨g, cap, cur, fz, hv, hg, hs g _ hh rfl (.inr hg), r⟩
theorem Bld.below {w w' : World} {b B : Nat} {l : List UInt8} (h : Bld w b B l) (hb : Below w.heap.size w w') : Bld w' b B l := h.keep fun k _ hk _ _ => (hb.block k (Array.getElem?_eq_some_iff.1 hk).1).trans hk
theorem Bld.kept {w w' : World} {row : Option Nat} {b B : Nat} {l : List UInt8} (h : Bld w b B l) (hg : w.grownBy w' row) (hr : ∀ r, row = some r → ∃ o : Obj, w.heap[r]? = some o ∧ o.isCells = false) : Bld w' b B l :=
  h.keep fun k o hk hc _ => (hg.block k (Array.getElem?_eq_some_iff.1 hk).1 (by
    rintro rfl
    obtain ⟨o', h1, h2⟩ := hr k rfl
    rw [hk] at h1; cases h1; rw [hc] at h2; cases h2)).trans hk
theorem Bld.more {w : World} {b B B' : Nat} {l : List UInt8} (h : Bld w b B l) (hB : B' ≤ B) : Bld w b B' l := by
  obtain ⟨p, v, hp, hb, hown⟩ := h
  refine ⟨p, v, hp, hb, hown.1, ?_⟩
  rcases hown.2 with h0 | ⟨g, cap, cur, fz, hv, hg, r⟩
  · exact .inl h0
  · exact .inr ⟨g, cap, cur, fz, hv, by omega, r⟩
theorem Bld.is {w : World} {b B : Nat} {l : List UInt8} (h : Bld w b B l) (hB : b ≤ B) : Lib.IsBuilderF 181 5 b b (Lib.byteCells l) w := by
  obtain ⟨p, v, hp, hb, hown⟩ := h.more hB
  have hl : (Lib.byteCells l).length = l.length := Lib.byteCells_length l
  rcases hp with rfl | rfl
  · exact .inl ⟨Nat.le_refl _, v, hb, by rw [hl]; exact hown, Bld.row_ne hown hb⟩
  · exact .inr ⟨Nat.le_refl _, v, hb, by rw [hl]; exact hown, Bld.row_ne hown hb⟩
theorem bString_any (b B : Nat) (l : List UInt8) (w : World) (h : Bld w b B l) (hB : b ≤ B) :
    Calls Tryz.prog 188 #[.pointer (some ⟨b, 0, none⟩)] w fun e w' => e = .returned (.string ⟨l.toArray⟩) ∧ Below b w w' ∧ Lib.OthersKept 5 (some b) w w' :=
  (Tryz.Builder_String_any_k b b l w (h.is hB) (Nat.le_of_lt h.lt)).mono fun _ _ ⟨h1, _, h2, h3⟩ => ⟨h1, h2, h3⟩

set_option maxRecDepth 100000 in
set_option maxHeartbeats 1000000 in
theorem lWriteString_any (b B : Nat) (l : List UInt8) (s : ByteArray) (w : World) (h : Bld w b B l) (hbB : b < B) (hlen : l.length + s.size ≤ 140737488355328) (hBw : B ≤ w.heap.size) :
    Calls Tryz.prog 187 #[.pointer (some ⟨b, 0, none⟩), .string s] w fun e w' => e = .returned (.tuple #[.int .i64 s.size, .nilIface]) ∧ Bld w' b B (l ++ s.data.toList) ∧ Below b w w' ∧ (∀ k, k ≠ b → k < B → w'.heap[k]? = w.heap[k]?) ∧ KeepsOthers w w' := by
  obtain ⟨i0, hi, hz0, hz1, hz2⟩ := info_parts infoU8
  obtain ⟨p, v, hp, hbk, hown⟩ := h
  have hcells : ∀ o, w.heap[b]? = some o → o.isCells = true := fun o ho => by rw [hbk] at ho; cases ho; rfl
  have Hcells := Lib.hid hcells
  clear hcells
  have Hchk : Hid (Calls Tryz.prog 209 #[.pointer (some ⟨b, 0, none⟩)] w fun e w' => e = .returned (.tuple #[]) ∧ w'.heap[b]? = some (.cells #[.pointer (some ⟨b, 0, none⟩), v] 181 (0, 0)) ∧ w'.ownsRowF B 5 1 v l.length (Lib.byteCells l) ∧ w.grownBy w' (some b)) := by
    rcases hp with rfl | rfl
    · refine Lib.hid ((copyCheck_fresh b w (by rw [Lib.cell_of_heap hbk]; rfl) (by simp [World.shape?, hbk]) (Lib.frozen_of_heap hbk 0)).mono ?_)
      rintro e w' ⟨rfl, rfl⟩
      have hg : w.grownBy (w.setCell ⟨b, 0, none⟩ (.pointer (some ⟨b, 0, none⟩))) (some b) :=
        ⟨rfl, rfl, rfl, by simp [World.setCell], fun k _ hk => Below.heap_setCell w ⟨b, 0, none⟩ _ k (fun e => hk (by rw [e]))⟩
      refine ⟨rfl, ?_, hown.kept hg ?_, hg⟩
      · simp [World.setCell, Array.getElem?_modify, hbk]
      · exact .inr (Bld.row_ne hown hbk)
    · refine Lib.hid ((copyCheck_used b w (by rw [Lib.cell_of_heap hbk]; rfl)).mono ?_)
      rintro e w' ⟨rfl, rfl⟩
      exact ⟨rfl, hbk, hown, World.grownBy.refl _ _⟩
  clear hp hown hbk
  go_enter Tryz.func187, Tryz.ntmps187
  go_wp2_with fail
  refine Hchk.out.mono ?_
  clear Hchk
  rintro e w1 ⟨rfl, hbk, hown, hg1⟩
  have c0 : w1.cell? ⟨b, 0, none⟩ = some (.pointer (some ⟨b, 0, none⟩)) := by rw [Lib.cell_of_heap hbk]; rfl
  have c1 : w1.cell? ⟨b, 1, none⟩ = some v := by rw [Lib.cell_of_heap hbk]; rfl
  have hs1 := hg1.size
  go_wp2_with (at_builtin; refine Lib.wpList_append_own_stringF _ rfl _ _ 96 9 rfl B 5 i0 Tryz.underlying96 Tryz.underlying9 hi hz0 hz1 hz2 _ _ _ rfl hown s rfl ?c3 ?c4 ?c5 ?_)
  case c3 => unfold maxLen; omega
  case c4 => omega
  case c5 => omega
  intro v' w2 hown' hgrow _
  have hlt : b < w1.heap.size := (Array.getElem?_eq_some_iff.1 hbk).1
  have hne := Bld.row_ne hown hbk
  have hb2 : w2.heap[b]? = some (.cells #[.pointer (some ⟨b, 0, none⟩), v] 181 (0, 0)) := by
    rw [hgrow.block b hlt (fun e => hne e.symm)]
    exact hbk
  have d0 : w2.cell? ⟨b, 0, none⟩ = some (.pointer (some ⟨b, 0, none⟩)) := by rw [Lib.cell_of_heap hb2]; rfl
  have d1 : w2.cell? ⟨b, 1, none⟩ = some v := by rw [Lib.cell_of_heap hb2]; rfl
  have f1 : w2.frozen? ⟨b, 1, none⟩ = false := Lib.frozen_of_heap hb2 1
  obtain ⟨ao, n', cap, rfl⟩ : ∃ ao n' cap, v' = .slice ao n' cap := by
    rcases hown'.2 with ⟨hv, _⟩ | ⟨g, cap, cur, fz, hv, _⟩
    · exact ⟨_, _, _, hv⟩
    · exact ⟨_, _, _, hv⟩
  have hs2 := hgrow.size
  go_wp2
  go_ret2
  have hblk : ∀ k, k ≠ b → k < B → (w2.setCell ⟨b, 1, none⟩ (.slice ao n' cap)).heap[k]? = w.heap[k]? := fun k hk hkB => by
    rw [Below.heap_setCell w2 ⟨b, 1, none⟩ _ k hk, hgrow.block k (by omega) (fun e => by have := (hown.lt k e.symm).1; omega), hg1.block k (by omega) (fun e => by injection e; omega)]
  refine ⟨rfl, ⟨_, .slice ao n' cap, .inr rfl, ?_, ?_⟩, ⟨?_, ?_, ?_, ?_, fun k hk => hblk k (by omega) (by omega)⟩, hblk, ?_⟩
  · simp [World.setCell, Array.getElem?_modify, hb2]
  · have hne' := Bld.row_ne hown' hb2
    have hg3 : w2.grownBy (w2.setCell ⟨b, 1, none⟩ (.slice ao n' cap)) (some b) :=
      ⟨rfl, rfl, rfl, by simp [World.setCell], fun k _ hk => Below.heap_setCell w2 ⟨b, 1, none⟩ _ k (fun e => hk (by rw [e]))⟩
    have h := hown'.kept hg3 (.inr hne')
    have e1 : Lib.byteCells (l ++ s.data.toList) = Lib.byteCells l ++ Lib.strCells s := by simp [Lib.byteCells, Lib.strCells]
    rw [e1, List.length_append, Array.length_toList]
    exact h
  · exact hgrow.os.trans hg1.os
  · exact hgrow.tape.trans hg1.tape
  · exact hgrow.output.trans hg1.output
  · simp [World.setCell]; omega
  · refine ⟨by simp [World.setCell]; omega, fun k o hk ho => ?_⟩
    have hkb : k ≠ b := fun e => by
      subst e
      have := Hcells.out o hk
      rw [ho] at this; cases this
    rw [Below.heap_setCell w2 ⟨b, 1, none⟩ _ k hkb, hgrow.block k (by have := (Array.getElem?_eq_some_iff.1 hk).1; omega) ?_, hg1.block k (Array.getElem?_eq_some_iff.1 hk).1 (fun e => by injection e; omega)]
    · exact hk
    · intro e
      obtain ⟨c, fz, hc⟩ := Lib.ownsRowF_kind hown k e.symm
      rw [hg1.block k (Array.getElem?_eq_some_iff.1 hk).1 (fun e => by injection e; omega), hk] at hc
      cases hc; cases ho
end Go.Proofs.YtlbfbkdcjdeagaaGreatDoor

/-
  strings.Builder: Grow at a fresh builder; WriteByte.
-/
namespace Go.Proofs.YtlbfbkdcjdeagaaGreatDoor
open Go.RowKit

theorem bGrow_any (b n : Nat) (w : World) (hbk : w.heap[b]? = some (.cells #[.pointer none, .slice none 0 0] 181 (0, 0))) (hn : n ≤ 281474976710656) :
    Calls Tryz.prog 186 #[.pointer (some ⟨b, 0, none⟩), .int .i64 n] w fun e w' => e = .returned (.tuple #[]) ∧ Bld w' b (b + 1) [] ∧ Below b w w' := by
  have hlt : b < w.heap.size := (Array.getElem?_eq_some_iff.1 hbk).1
  refine (Tryz.Builder_Grow_fresh b b n w (Nat.le_refl _) hbk (Nat.le_of_lt hlt) hn).mono ?_
  rintro e w' ⟨rfl, ⟨_, v, h1, h2, h3⟩, hb⟩
  refine ⟨rfl, ⟨_, v, .inr rfl, h1, ?_⟩, hb⟩
  have h4 := World.ownsRowF_of h2
  refine ⟨h4.1, ?_⟩
  rcases h4.2 with h | ⟨g, cap, cur, fz, hv, hg, r⟩
  · exact .inl h
  · refine .inr ⟨g, cap, cur, fz, hv, ?_, r⟩
    rw [hv] at h3
    have : g ≠ b := fun e => h3 (by rw [e]; rfl)
    omega

theorem cell_new1 (w : World) {t : TypeId} (x : Value) : ∀ j u, [x][j]? = some u → (w.alloc (.cells #[x] t)).cell? ((⟨w.heap.size, 0, none⟩ : Addr).add j) = some u := fun j u h => by
  match j, h with
  | 0, h =>
    obtain rfl : x = u := by simpa using h
    exact (Blk.new w t #[x]).cell 0

end Go.Proofs.YtlbfbkdcjdeagaaGreatDoor

/-
  strings.ToUpper of a text of ASCII bytes.
-/
namespace Go.Proofs.YtlbfbkdcjdeagaaGreatDoor
open Go.RowKit

def upB (c : UInt8) : UInt8 := if 97 ≤ c.toNat ∧ c.toNat ≤ 122 then c - 32 else c
def lowP (c : UInt8) : Prop := 97 ≤ c.toNat ∧ c.toNat ≤ 122
theorem upB_low {c : UInt8} (h : lowP c) : upB c = c - 32 := if_pos h
theorem upB_not {c : UInt8} (h : ¬ lowP c) : upB c = c := if_neg h
theorem upB_nat {c : UInt8} (h : lowP c) : ((c - 32 : UInt8).toNat : Int) = (c.toNat : Int) - 32 := by
  have h1 : (32 : UInt8) ≤ c := by rw [UInt8.le_iff_toNat_le]; have := h.1; show 32 ≤ c.toNat; omega
  rw [UInt8.toNat_sub_of_le _ _ h1]
  have := h.1
  show ((c.toNat - 32 : Nat) : Int) = _
  omega
/-- How far the upper-case text has come. -/
def UpAt (s : ByteArray) (i p : Nat) (l : List UInt8) : Prop := p ≤ i ∧ i ≤ s.size ∧ l = (s.data.toList.take p).map upB ∧ ∀ k c, p ≤ k → k < i → s.data.toList[k]? = some c → ¬ lowP c
theorem map_not {l : List UInt8} (h : ∀ c ∈ l, ¬ lowP c) : l.map upB = l := by
  induction l with
  | nil => rfl
  | cons c l ih => rw [List.map_cons, upB_not (h c (by simp)), ih (fun d hd => h d (by simp [hd]))]
theorem upAt_seg {s : ByteArray} {i p : Nat} {l : List UInt8} (h : UpAt s i p l) : l ++ (s.extract p i).data.toList = (s.data.toList.take i).map upB := by
  obtain ⟨h1, h2, rfl, h4⟩ := h
  have e : s.data.toList.take i = s.data.toList.take p ++ (s.extract p i).data.toList := by
    rw [Lib.extract_data, ← List.drop_take]
    have := (List.take_append_drop p (s.data.toList.take i)).symm
    rw [List.take_take, Nat.min_eq_left h1] at this
    exact this
  rw [e, List.map_append, map_not (l := (s.extract p i).data.toList)]
  intro c hc
  obtain ⟨k, hk, hkc⟩ := List.getElem_of_mem hc
  have hk' : (s.extract p i).data.toList[k]? = some c := by rw [List.getElem?_eq_getElem hk, hkc]
  rw [Lib.extract_data] at hk'
  have hlt : k < i - p := by
    have := (List.getElem?_eq_some_iff.1 hk').1
    rw [List.length_take] at this; omega
  rw [List.getElem?_take_of_lt hlt, List.getElem?_drop] at hk'
  exact h4 (p + k) c (by omega) (by omega) hk'
theorem upAt_skip {s : ByteArray} {i p : Nat} {l : List UInt8} {c : UInt8} (h : UpAt s i p l) (hi : i < s.size) (hc : s.data.toList[i]? = some c) (hn : ¬ lowP c) : UpAt s (i + 1) p l :=
  ⟨by have := h.1; omega, by omega, h.2.2.1, fun k d hk hk2 hd => by
    rcases Nat.lt_or_ge k i with hlt | hge
    · exact h.2.2.2 k d hk hlt hd
    · obtain rfl : k = i := by omega
      rw [hc] at hd; cases hd; exact hn⟩
theorem upAt_put {s : ByteArray} {i p : Nat} {l : List UInt8} {c : UInt8} (h : UpAt s i p l) (hi : i < s.size) (hc : s.data.toList[i]? = some c) (hn : lowP c) : UpAt s (i + 1) (i + 1) (l ++ (s.extract p i).data.toList ++ [c - 32]) :=
  ⟨by omega, by omega, by rw [upAt_seg h, List.take_add_one, hc, Option.toList_some, List.map_append, List.map_singleton, upB_low hn], fun k d hk hk2 _ => by omega⟩
theorem upAt_len {s : ByteArray} {i p : Nat} {l : List UInt8} (h : UpAt s i p l) : l.length = p := by
  have h1 := h.1; have h2 := h.2.1
  rw [h.2.2.1, List.length_map, List.length_take, size_data]; omega

end Go.Proofs.YtlbfbkdcjdeagaaGreatDoor

/-
  strings.Repeat of one nought, up to three times.
-/
namespace Go.Proofs.YtlbfbkdcjdeagaaGreatDoor
open Go.RowKit

theorem hasPre_any (s p : ByteArray) (b : Bool) (w : World) (h : Lib.hasPrefix s.data.toList p.data.toList = b) : Calls Tryz.prog 205 #[.string s, .string p] w fun e w' => e = .returned (.bool b) ∧ w = w' :=
  (Tryz.strings_HasPrefix s p w).mono fun _ _ ⟨h1, h2⟩ => ⟨by rw [h1, h], h2.symm⟩
end Go.Proofs.YtlbfbkdcjdeagaaGreatDoor

/-
  runes.spell: a rune's spelling.
-/
namespace Go.Proofs.YtlbfbkdcjdeagaaGreatDoor
open Go.RowKit

theorem upB_lowD (d : Nat) (h : d < 16) : upB (lowD d) = hexD d := by
  rcases (by omega : d = 0 ∨ d = 1 ∨ d = 2 ∨ d = 3 ∨ d = 4 ∨ d = 5 ∨ d = 6 ∨ d = 7 ∨ d = 8 ∨ d = 9 ∨ d = 10 ∨ d = 11 ∨ d = 12 ∨ d = 13 ∨ d = 14 ∨ d = 15) with rfl | rfl | rfl | rfl | rfl | rfl | rfl | rfl | rfl | rfl | rfl | rfl | rfl | rfl | rfl | rfl <;> rfl
theorem lowD_lt (d : Nat) (h : d < 16) : (lowD d).toNat < 128 := by
  rcases (by omega : d = 0 ∨ d = 1 ∨ d = 2 ∨ d = 3 ∨ d = 4 ∨ d = 5 ∨ d = 6 ∨ d = 7 ∨ d = 8 ∨ d = 9 ∨ d = 10 ∨ d = 11 ∨ d = 12 ∨ d = 13 ∨ d = 14 ∨ d = 15) with rfl | rfl | rfl | rfl | rfl | rfl | rfl | rfl | rfl | rfl | rfl | rfl | rfl | rfl | rfl | rfl <;> decide
theorem up_lowW : ∀ (k n : Nat), (lowW k n).map upB = hexW k n
  | 0, _ => rfl
  | k + 1, n => by rw [lowW, List.map_append, up_lowW k, List.map_singleton, upB_lowD _ (Nat.mod_lt _ (by decide)), hexW]
theorem lowW_ascii : ∀ (k n : Nat), ∀ c ∈ lowW k n, c.toNat < 128
  | 0, _, c, h => by simp [lowW] at h
  | k + 1, n, c, h => by
    rw [lowW] at h
    rcases List.mem_append.1 h with h | h
    · exact lowW_ascii k _ c h
    · simp at h; subst h; exact lowD_lt _ (Nat.mod_lt _ (by decide))
theorem hex_pad (n : Nat) : List.replicate (4 - hexL n) (48 : UInt8) ++ hexW (hexL n) n = hexS n := by
  unfold hexS
  by_cases h1 : n < 16
  · have e1 : hexL n = 1 := by unfold hexL; rw [if_pos h1]
    have e2 : hexK n = 4 := by unfold hexK; rw [if_pos (by omega)]
    rw [e1, e2, hexW_succ 3, hexW_succ 2, hexW_succ 1]
    have a1 : n / 16 ^ 3 % 16 = 0 := by rw [show (16 : Nat) ^ 3 = 4096 by decide]; omega
    have a2 : n / 16 ^ 2 % 16 = 0 := by rw [show (16 : Nat) ^ 2 = 256 by decide]; omega
    have a3 : n / 16 ^ 1 % 16 = 0 := by rw [show (16 : Nat) ^ 1 = 16 by decide]; omega
    rw [a1, a2, a3]; rfl
  · by_cases h2 : n < 256
    · have e1 : hexL n = 2 := by unfold hexL; rw [if_neg h1, if_pos h2]
      have e2 : hexK n = 4 := by unfold hexK; rw [if_pos (by omega)]
      rw [e1, e2, hexW_succ 3, hexW_succ 2]
      have a1 : n / 16 ^ 3 % 16 = 0 := by rw [show (16 : Nat) ^ 3 = 4096 by decide]; omega
      have a2 : n / 16 ^ 2 % 16 = 0 := by rw [show (16 : Nat) ^ 2 = 256 by decide]; omega
      rw [a1, a2]; rfl
    · by_cases h3 : n < 4096
      · have e1 : hexL n = 3 := by unfold hexL; rw [if_neg h1, if_neg h2, if_pos h3]
        have e2 : hexK n = 4 := by unfold hexK; rw [if_pos (by omega)]
        rw [e1, e2, hexW_succ 3]
        have a1 : n / 16 ^ 3 % 16 = 0 := by rw [show (16 : Nat) ^ 3 = 4096 by decide]; omega
        rw [a1]; rfl
      · have e1 : hexL n = hexK n := by unfold hexL; rw [if_neg h1, if_neg h2, if_neg h3]
        have := hexK_bd n
        rw [e1, show 4 - hexK n = 0 by omega]; rfl

theorem ret_str {x y : ByteArray} (h : x.data.toList = y.data.toList) : Ending.returned (.string x) = .returned (.string y) := by
  rw [ByteArray.ext (Array.toList_inj.1 h)]

end Go.Proofs.YtlbfbkdcjdeagaaGreatDoor

/-
  strings.Join with one blank between.
-/
namespace Go.Proofs.YtlbfbkdcjdeagaaGreatDoor
open Go.RowKit

def joinL : List ByteArray → List UInt8
  | [] => []
  | [x] => x.data.toList
  | x :: y :: r => x.data.toList ++ 32 :: joinL (y :: r)
theorem joinL_snoc : ∀ (l : List ByteArray) (x : ByteArray), l ≠ [] → joinL (l ++ [x]) = joinL l ++ [32] ++ x.data.toList
  | [], _, h => absurd rfl h
  | [y], x, _ => by simp [joinL]
  | y :: z :: r, x, _ => by
    have ih := joinL_snoc (z :: r) x (by simp)
    simp only [List.cons_append, joinL] at ih ⊢
    rw [ih]; simp
theorem joinL_len : ∀ (l : List ByteArray), (∀ x ∈ l, x.size ≤ 1000) → (joinL l).length ≤ 1001 * l.length
  | [], _ => by simp [joinL]
  | [x], h => by have := h x (by simp); simp [joinL] at this ⊢; have h2 : x.data.size = x.size := rfl; omega
  | x :: y :: r, h => by
    have h1 := h x (by simp)
    have ih := joinL_len (y :: r) (fun z hz => h z (by simp [hz]))
    have h2 := size_data x
    rw [joinL, List.length_append, List.length_cons, h2]
    simp only [List.length_cons] at ih ⊢
    omega
theorem joinL_step {ss : List ByteArray} {k : Nat} {x : ByteArray} (h : ss[k + 1]? = some x) : joinL (ss.take (k + 1 + 1)) = joinL (ss.take (k + 1)) ++ [32] ++ x.data.toList := by
  rw [List.take_add_one (i := k + 1), h, Option.toList_some, joinL_snoc]
  intro e
  have h1 : (ss.take (k + 1)).length = 0 := by rw [e]; rfl
  have h2 := (List.getElem?_eq_some_iff.1 h).1
  rw [List.length_take] at h1
  omega

end Go.Proofs.YtlbfbkdcjdeagaaGreatDoor

/-
  runes.Print: the spelling of a set.
-/
namespace Go.Proofs.YtlbfbkdcjdeagaaGreatDoor
open Go.RowKit

theorem TabB.below {w w' : World} (h : TabB w) (hb : Below w.heap.size w w') : TabB w' := by unfold TabB at h ⊢; exact cell_keep h hb
theorem infoStr : (Tryz.prog.info? 9).map (fun i => (i.zero, i.size, i.bytes)) = some (some (.string ByteArray.empty), 1, 16) := by kernel_rfl
/-- A text's one cell. -/
def encStr (s : ByteArray) : List Value := [.string s]
theorem encStr_ok (l : List ByteArray) : ∀ y ∈ l.map encStr, y.length = 1 ∧ ∀ u ∈ y, u.oneCell' = true := by
  intro y hy; obtain ⟨s, _, rfl⟩ := List.mem_map.1 hy
  exact ⟨rfl, by simp [encStr, Value.oneCell']⟩
def itemS (x : Int × Int) : ByteArray := ⟨(itemT x).toArray⟩
theorem joinL_print : ∀ (l : List (Int × Int)), joinL (l.map itemS) = printL l
  | [] => rfl
  | [x] => by simp [joinL, printL, itemS]
  | x :: y :: r => by
    have ih := joinL_print (y :: r)
    simp only [List.map_cons, joinL, printL] at ih ⊢
    rw [ih]; simp [itemS]
theorem itemS_size (x : Int × Int) : (itemS x).size ≤ 17 := by
  rw [← size_data]; simpa [itemS] using itemT_len x
theorem itemT_one {x : Int × Int} (h : x.2 = x.1) : itemT x = spellP x.1 := by unfold itemT; rw [if_pos h, List.append_nil]
theorem itemT_two {x : Int × Int} (h : ¬ x.2 = x.1) : itemT x = spellP x.1 ++ 45 :: spellP x.2 := by unfold itemT; rw [if_neg h]

end Go.Proofs.YtlbfbkdcjdeagaaGreatDoor

/-
  props.(*Db).Text, walked.
-/
namespace Go.Proofs.YtlbfbkdcjdeagaaGreatDoor
open Go.RowKit Go.Maps

theorem textG_le (N : List (List UInt8)) (S : List (List (Int × Int))) (k : Nat) (hN : ∀ n ∈ N, n.length ≤ 32) (hk : N.length ≤ 64) (hS : lenS S ≤ 1114112) : (textG (N.take k) (S.take k)).length ≤ 30000000 := by
  have h1 := textG_len (N.take k) (S.take k)
  have h2 : lenS (S.take k) ≤ lenS S := by
    have h3 : lenS S = lenS (S.take k) + lenS (S.drop k) := by
      conv => lhs; rw [← List.take_append_drop k S]
      exact lenS_append _ _
    omega
  have h4 : ∀ (M : List (List UInt8)), (∀ n ∈ M, n.length ≤ 32) → lenS M ≤ 32 * M.length := by
    intro M hM
    induction M with
    | nil => simp [lenS]
    | cons a r ih => have := hM a (by simp); have := ih (fun n hn => hM n (by simp [hn])); simp only [lenS, List.length_cons]; omega
  have h5 := h4 (N.take k) (fun n hn => hN n (List.mem_of_mem_take hn))
  rw [List.length_take] at h1 h5
  omega

theorem itemT_ne (x : Int × Int) : itemT x ≠ [] := fun h => by
  unfold itemT at h
  have := (List.append_eq_nil_iff.1 h).1
  unfold spellP at this
  simp at this

end Go.Proofs.YtlbfbkdcjdeagaaGreatDoor

/-
  kerflaw04: num, live, walked.
-/
namespace Go.Proofs.YtlbfbkdcjdeagaaGreatDoor
open Go.RowKit Go.Maps
theorem small_of : ofC smallD ⟨#[101, 204, 129, 255]⟩ = [2, 1, 0] := by
  have h : runesP ⟨#[101, 204, 129, 255]⟩ = [(101, 0, 1), (769, 1, 3), (65533, 3, 4)] := by decide +kernel
  unfold ofC
  rw [h]
  obtain ⟨h1, h2, h3⟩ := small_get
  show [smallD.get 101, smallD.get 769, smallD.get 65533] = [2, 1, 0]
  rw [h1, h2, h3]

end Go.Proofs.YtlbfbkdcjdeagaaGreatDoor

/-
  kerfref04: blank, trim, cut, walked.
-/
namespace Go.Proofs.YtlbfbkdcjdeagaaGreatDoor
open Go.RowKit Go.Maps

theorem blk_true {c : UInt8} (h : (c.toNat : Int) = 32 ∨ (c.toNat : Int) = 9) : blkB c = true := by
  have h1 : c = 32 ↔ c.toNat = 32 := u8_eq (n := 32) (by omega)
  have h2 : c = 9 ↔ c.toNat = 9 := u8_eq (n := 9) (by omega)
  simp only [blkB, Bool.or_eq_true, beq_iff_eq, h1, h2]; omega
theorem blk_false {c : UInt8} (h : ¬ ((c.toNat : Int) = 32 ∨ (c.toNat : Int) = 9)) : blkB c = false := by
  cases hb : blkB c with
  | false => rfl
  | true =>
    have h1 : c = 32 ↔ c.toNat = 32 := u8_eq (n := 32) (by omega)
    have h2 : c = 9 ↔ c.toNat = 9 := u8_eq (n := 9) (by omega)
    refine absurd ?_ h
    simp only [blkB, Bool.or_eq_true, beq_iff_eq, h1, h2] at hb; omega
theorem vblank_any (c : UInt8) (w : World) : Calls Tryz.prog 154 #[.int .u8 (c.toNat : Int)] w fun e w' => e = .returned (.bool (blkB c)) ∧ w = w' := by
  have HT := Lib.hid (@blk_true c)
  have HF := Lib.hid (@blk_false c)
  generalize (c.toNat : Int) = z at HT HF
  rcases (by omega : z = 32 ∨ z = 9 ∨ (z ≠ 32 ∧ z ≠ 9)) with h | h | ⟨h, h'⟩
  · have HV := Lib.hid (HT.out (.inl h))
    subst h
    go_enter Tryz.func154, Tryz.ntmps154
    go_wp2
    go_ret
    exact ⟨by rw [HV.out]; rfl, rfl⟩
  · have HV := Lib.hid (HT.out (.inr h))
    subst h
    go_enter Tryz.func154, Tryz.ntmps154
    go_wp2
    go_ret
    exact ⟨by rw [HV.out]; rfl, rfl⟩
  · have HV := Lib.hid (HF.out (by omega))
    have h1 : (z == 32) = false := beq_eq_false_iff_ne.2 h
    have h2 : (z == 9) = false := beq_eq_false_iff_ne.2 h'
    go_enter Tryz.func154, Tryz.ntmps154
    go_wp2
    go_ret
    exact ⟨by rw [HV.out]; rfl, rfl⟩

def strSize : Value → Nat
  | .string s => s.size
  | _ => 0
set_option maxRecDepth 100000 in
set_option maxHeartbeats 2000000 in
theorem vtrim_any (L : List UInt8) (w : World) (hL : L.length ≤ 1000000) : Calls Tryz.prog 126 #[.string (bytesOf L)] w fun e w' => e = .returned (.string (bytesOf (trimL L))) ∧ w = w' := by
  have HTE := Lib.hid (trimL_eq L)
  go_enter Tryz.func126, Tryz.ntmps126
  go_wp2
  go_loopw [0] (fun v wr => ∃ l : List UInt8, v = .string (bytesOf l) ∧ l.length ≤ L.length ∧ Hid (l.dropWhile blkB = L.dropWhile blkB) ∧ wr = w) (fun v _ => strSize v)
  case atStart => exact ⟨L, rfl, by omega, rfl, rfl⟩
  case round =>
    obtain ⟨l, rfl, hl, HD, rfl⟩ := hrel
    have hsz : (bytesOf l).size = l.length := bytesOf_size l
    by_cases hb : ∃ c r, l = c :: r ∧ blkB c = true
    · obtain ⟨c, r, rfl, hc⟩ := hb
      have h0 : 0 < (bytesOf (c :: r)).size := by rw [hsz]; simp
      have hix := index_at (bytesOf (c :: r)) 0 0 rfl h0
      have hg : (bytesOf (c :: r))[0]'h0 = c := by have := get_list h0; rw [bytesOf_list] at this; simpa using this.symm
      rw [hg] at hix
      have hgi : (((bytesOf (c :: r))[0]'h0).toNat : Int) = (c.toNat : Int) := by rw [hg]
      have HX := Lib.hid (ext_bytes (c :: r) 1)
      rw [hsz] at HX
      have hl2 : (r.length : Int) + 1 ≤ 1000000 := by simp at hl; omega
      clear hg
      go_wp2_with (go_at_call 154; refine (vblank_any c _).mono ?_; rw [hc]; rintro e w' ⟨rfl, rfl⟩)
      go_roundw
      case rel => exact ⟨r, by first | exact congrArg Value.string HX.out | (rw [← ext_bytes (c :: r) 1]; rfl), by simp at hl; omega, Lib.hid (by rw [← HD.out, drop_blank hc]), by first | rfl | trivial⟩
      case measure => simp only [strSize, ByteArray.size_extract, bytesOf_size, List.length_cons]; omega
    · have HLD : Hid (l = L.dropWhile blkB) := Lib.hid (by
        rw [← HD.out]
        cases l with
        | nil => rfl
        | cons c r =>
          have : blkB c = false := by
            cases hq : blkB c with
            | false => rfl
            | true => exact absurd ⟨c, r, rfl, hq⟩ hb
          exact (dropWhile_stop this).symm)
      have HTR : Hid (trimL L = trimR l) := Lib.hid (by rw [HTE.out, HLD.out])
      have hstop : l = [] ∨ ∃ c r, l = c :: r ∧ blkB c = false := by
        cases l with
        | nil => exact .inl rfl
        | cons c r =>
          refine .inr ⟨c, r, rfl, ?_⟩
          cases hq : blkB c with
          | false => rfl
          | true => exact absurd ⟨c, r, rfl, hq⟩ hb
      clear hb HD HLD
      rcases hstop with rfl | ⟨c, r, rfl, hc⟩
      · have HT0 : Hid (trimL L = []) := Lib.hid (by rw [HTR.out]; rfl)
        have hz0 : (bytesOf []).size = 0 := rfl
        go_wp2_with fail
        go_loopw [0] (fun v wq => v = .string (bytesOf []) ∧ wq = wr) (fun _ _ => 0)
        case atStart => exact ⟨rfl, rfl⟩
        case round =>
          obtain ⟨rfl, rfl⟩ := hrel
          go_wp2
          go_ret
          exact ⟨by rw [HT0.out]; rfl, rfl⟩
      · have h0 : 0 < (bytesOf (c :: r)).size := by rw [hsz]; simp
        have hix := index_at (bytesOf (c :: r)) 0 0 rfl h0
        have hg : (bytesOf (c :: r))[0]'h0 = c := by have := get_list h0; rw [bytesOf_list] at this; simpa using this.symm
        rw [hg] at hix
        have hgi : (((bytesOf (c :: r))[0]'h0).toNat : Int) = (c.toNat : Int) := by rw [hg]
        clear hg
        go_wp2_with (go_at_call 154; refine (vblank_any c _).mono ?_; rw [hc]; rintro e w' ⟨rfl, rfl⟩)
        go_loopw [0] (fun v wq => ∃ l : List UInt8, v = .string (bytesOf l) ∧ l.length ≤ L.length ∧ Hid (trimR l = trimL L) ∧ wq = wr) (fun v _ => strSize v)
        case atStart => exact ⟨c :: r, rfl, hl, Lib.hid HTR.out.symm, rfl⟩
        case round =>
          clear hix hgi h0
          obtain ⟨l, rfl, hl2, HD, rfl⟩ := hrel
          have hsz2 : (bytesOf l).size = l.length := bytesOf_size l
          rcases List.eq_nil_or_concat l with rfl | ⟨o, y, rfl⟩
          · have HT0 : Hid (trimL L = []) := Lib.hid (by rw [← HD.out]; rfl)
            have hz0 : (bytesOf []).size = 0 := rfl
            go_wp2
            go_ret
            exact ⟨by rw [HT0.out]; rfl, rfl⟩
          · rw [List.concat_eq_append] at *
            have hlast : (o ++ [y]).getLast? = some y := by simp
            have hol : (o ++ [y]).length = o.length + 1 := by simp
            rw [hol] at hsz2 hl2
            have hp : o.length < (bytesOf (o ++ [y])).size := by omega
            have hix := index_at (bytesOf (o ++ [y])) ((o.length : Int) + 1 - 1) o.length (by omega) hp
            have hix2 := index_at (bytesOf (o ++ [y])) (o.length : Int) o.length rfl hp
            have hg : (bytesOf (o ++ [y]))[o.length]'hp = y := by have := get_list hp; rw [bytesOf_list] at this; simpa using this.symm
            rw [hg] at hix hix2
            have hgi : (((bytesOf (o ++ [y]))[o.length]'hp).toNat : Int) = (y.toNat : Int) := by rw [hg]
            clear hg
            cases hy : blkB y with
            | true =>
              have HX : Hid ((bytesOf (o ++ [y])).extract 0 o.length = bytesOf o) := Lib.hid (by rw [ext_bytes0]; simp)
              have HD' : Hid (trimR o = trimL L) := Lib.hid (by rw [← HD.out, (trim_last hlast).1 hy, hol, Nat.add_sub_cancel]; simp)
              go_wp2_with (go_at_call 154; refine (vblank_any y _).mono ?_; rw [hy]; rintro e w' ⟨rfl, rfl⟩)
              go_roundw
              case rel => exact ⟨o, congrArg Value.string HX.out, by omega, HD', by first | rfl | trivial⟩
              case measure => simp only [strSize, ByteArray.size_extract, bytesOf_size, List.length_append, List.length_singleton]; omega
            | false =>
              have HD' : Hid (trimL L = o ++ [y]) := Lib.hid (by rw [← HD.out, (trim_last hlast).2 hy])
              go_wp2_with (go_at_call 154; refine (vblank_any y _).mono ?_; rw [hy]; rintro e w' ⟨rfl, rfl⟩)
              go_ret
              exact ⟨by rw [HD'.out]; rfl, rfl⟩
end Go.Proofs.YtlbfbkdcjdeagaaGreatDoor

/-
  kerflaw04: texts, ints, ranged, walked (two lists that are the same).
-/
namespace Go.Proofs.YtlbfbkdcjdeagaaGreatDoor
open Go.RowKit Go.Maps

theorem Rd.atS {w : World} {A : Option Addr} {l : List (List UInt8)} {k : Nat} {x : List UInt8} (h : Rd w 1 A (l.map encNm)) (hk : l[k]? = some x) : ∃ b off, A = some ⟨b, off, none⟩ ∧ w.cell? ⟨b, off + k, none⟩ = some (.string (bytesOf x)) := by
  obtain ⟨b, off, rfl, hc⟩ := h (by intro e; cases l with | nil => simp at hk | cons _ _ => simp at e)
  have h0 := hc k 0 (encNm x) (.string (bytesOf x)) (by simp [hk]) rfl
  exact ⟨b, off, rfl, by simpa using h0⟩
theorem newP_code {t : List UInt8} {x : Int × Nat} (h : newP t = .error x) : 1 ≤ x.1 := by
  unfold newP at h
  split at h
  · injection h with h; subst h; decide
  · have key : ∀ (L : List (List UInt8)) (d : DbP) (i : Nat), linesGo d L i = .error x → 1 ≤ x.1 := by
      intro L
      induction L with
      | nil => intro d i h; cases h
      | cons a r ih =>
        intro d i h
        unfold linesGo at h
        split at h
        · rename_i e he
          injection h with h; subst h
          simp only
          unfold stepL at he
          split at he
          · cases he
          · injection he with he; omega
          · have := addL_err he; omega
        · exact ih _ _ h
    exact key _ _ _ h
end Go.Proofs.YtlbfbkdcjdeagaaGreatDoor

/-
  kerfref04: cut, Class, meet, walked.
-/
namespace Go.Proofs.YtlbfbkdcjdeagaaGreatDoor
open Go.RowKit Go.Maps

theorem ret_pair {a b c d : Value} (h1 : a = c) (h2 : b = d) : Ending.returned (.tuple #[a, b]) = .returned (.tuple #[c, d]) := by rw [h1, h2]
set_option maxRecDepth 100000 in
set_option maxHeartbeats 2000000 in
theorem vcut_any (L : List UInt8) (w : World) (hL : L.length ≤ 1000000) :
    Calls Tryz.prog 125 #[.string (bytesOf L)] w fun e w' => e = .returned (.tuple #[.string (bytesOf (L.take (hashP L))), .int .i64 (fv (findP 59 (L.take (hashP L))))]) ∧ Below w.heap.size w w' := by
  have HIS := Lib.hid (cutD_is L)
  have hsz : (bytesOf L).size = L.length := bytesOf_size L
  go_enter Tryz.func125, Tryz.ntmps125
  go_wp2
  go_loopw [4, 5] (fun a v wr => ∃ (semi : Option Nat) (i : Nat), a = .int .i64 (fv semi) ∧ v = .int .i64 i ∧ i ≤ L.length ∧ Hid (CutAt L i semi) ∧ Below w.heap.size w wr) (fun _ v _ => L.length - (intOf v).toNat)
  case atStart => exact ⟨none, 0, rfl, rfl, by omega, cutAt_first L, Below.refl _ _⟩
  case round =>
    obtain ⟨semi, i, rfl, rfl, hi, HC, hb⟩ := hrel
    by_cases hlt : i < L.length
    · have HQ := Lib.hid (sQuoted_any (bytesOf L) i wr (by omega) (by omega))
      have hqq := quoted_qt (bytesOf L) i (by omega)
      rw [bytesOf_list] at hqq
      have hp : i < (bytesOf L).size := by omega
      have hix := index_at (bytesOf L) i i rfl hp
      obtain ⟨x, hx⟩ : ∃ x, (bytesOf L)[i]'hp = x := ⟨_, rfl⟩
      have Hx : Hid (L[i]? = some x) := Lib.hid (by have := get_list hp; rw [bytesOf_list, hx] at this; exact this)
      have hgi : (((bytesOf L)[i]'hp).toNat : Int) = (x.toNat : Int) := by rw [hx]
      rw [hx] at hix
      clear hx
      cases hq : qtL (L.drop i) with
      | some k =>
        rw [hq] at hqq
        obtain ⟨q1, q2⟩ := hqq
        have HC' := Lib.hid (cutAt_qt HC.out hq)
        have hik : i + k ≤ L.length := HC'.out.1
        generalize quotedP (bytesOf L) i = Q at HQ q1 q2
        obtain ⟨r, wd, ok⟩ := Q
        simp only at q1 q2
        subst q1
        have hk3 := (qtL_some hq).1
        clear hq
        go_wp2_with (go_at_call 153; refine HQ.out.mono ?_; rintro e w2 ⟨rfl, hb2⟩)
        go_roundw
        case rel => exact ⟨semi, i + k, rfl, by go_num, hik, HC', below_step hb hb2 hb.size⟩
        case measure => simp [intOf]; omega
      | none =>
        rw [hq] at hqq
        generalize quotedP (bytesOf L) i = Q at HQ hqq
        obtain ⟨r, wd, ok⟩ := Q
        simp only at hqq
        subst hqq
        have h35 : x = 35 ↔ (x.toNat : Int) = 35 := by have h1 : x = 35 ↔ x.toNat = 35 := u8_eq (n := 35) (by omega); rw [h1]; omega
        have h59 : x = 59 ↔ (x.toNat : Int) = 59 := by have h1 : x = 59 ↔ x.toNat = 59 := u8_eq (n := 59) (by omega); rw [h1]; omega
        have HH := Lib.hid (fun h => cutAt_hash HC.out Hx.out hq (h35.2 h))
        have HS := Lib.hid (fun h hs => cutAt_semi HC.out Hx.out hq (h59.2 h) hs)
        have HGo := Lib.hid (fun (h : ¬ (x.toNat : Int) = 35) (hs : ¬ ((x.toNat : Int) = 59 ∧ semi = none)) => cutAt_go HC.out Hx.out hq (fun k => h (h35.1 k)) (fun k => hs ⟨h59.1 k.1, k.2⟩))
        generalize (x.toNat : Int) = z at hix hgi HH HS HGo
        clear h35 h59 hq
        rcases (by omega : z = 35 ∨ z = 59 ∨ (z ≠ 35 ∧ z ≠ 59)) with hz | hz | ⟨hz, hz'⟩
        · have HE := HH.out hz
          rw [HIS.out] at HE
          injection HE with HE1 HE2
          have HE1 := Lib.hid HE1
          have HE2 := Lib.hid HE2
          have hzz : (z == 35) = true := by rw [hz]; rfl
          clear hz HH HS HGo
          go_wp2_with (go_at_call 153; refine HQ.out.mono ?_; rintro e w2 ⟨rfl, hb2⟩)
          go_ret2
          have h1 := ext_bytes0 L i
          rw [← HE1.out] at h1
          exact ⟨ret_pair (congrArg Value.string (by first | exact h1 | (rw [HE1.out] at h1 ⊢; exact h1) | rfl)) (congrArg (Value.int .i64) (by rw [HE2.out])), below_step hb hb2 hb.size⟩
        · have hzz : (z == 35) = false := by rw [hz]; rfl
          have hzy : (z == 59) = true := by rw [hz]; rfl
          cases semi with
          | none =>
            have HC' := Lib.hid (HS.out hz rfl)
            have hfn : decide (fv none < 0) = true := rfl
            clear hz HH HS HGo
            go_wp2_with (go_at_call 153; refine HQ.out.mono ?_; rintro e w2 ⟨rfl, hb2⟩)
            go_roundw
            case rel => exact ⟨some i, i + 1, rfl, by go_num, by omega, HC', below_step hb hb2 hb.size⟩
            case measure => simp [intOf]; omega
          | some k =>
            have HC' := Lib.hid (HGo.out (by omega) (fun h => by cases h.2))
            have hfn : decide (fv (some k) < 0) = false := decide_eq_false (by simp only [fv]; omega)
            clear hz HH HS HGo
            go_wp2_with (go_at_call 153; refine HQ.out.mono ?_; rintro e w2 ⟨rfl, hb2⟩)
            go_roundw
            case rel => exact ⟨some k, i + 1, rfl, by go_num, by omega, HC', below_step hb hb2 hb.size⟩
            case measure => simp [intOf]; omega
        · have hzz : (z == 35) = false := beq_eq_false_iff_ne.2 hz
          have hzy : (z == 59) = false := beq_eq_false_iff_ne.2 hz'
          have HC' := Lib.hid (HGo.out hz (fun h => hz' h.1))
          clear hz hz' HH HS HGo
          go_wp2_with (go_at_call 153; refine HQ.out.mono ?_; rintro e w2 ⟨rfl, hb2⟩)
          go_roundw
          case rel => exact ⟨semi, i + 1, rfl, by go_num, by omega, HC', below_step hb hb2 hb.size⟩
          case measure => simp [intOf]; omega
    · have HE := cutAt_end HC.out hlt
      rw [HIS.out] at HE
      injection HE with HE1 HE2
      have HE1 := Lib.hid HE1
      have HE2 := Lib.hid HE2
      go_wp2
      go_ret2
      exact ⟨ret_pair (congrArg Value.string (by rw [HE1.out, List.take_length]; try rfl)) (by rw [HE2.out]; try rfl), hb⟩
end Go.Proofs.YtlbfbkdcjdeagaaGreatDoor

/-
  kerfref04: Class, meet, walked.
-/
namespace Go.Proofs.YtlbfbkdcjdeagaaGreatDoor
open Go.RowKit Go.Maps

/-- The document's database, its parts. -/
structure RfX (w : World) (base p x : Nat) (An : Option Addr) (nn cn : Nat) (As : Option Addr) (ns cs : Nat) (xs : List (Option Addr × Nat × Nat)) (N : List (List UInt8)) (S : List (List (Int × Int))) : Prop where
  blk : Blk w p 73 #[.slice An nn cn, .slice As ns cs]
  pb : base ≤ p
  hn : Own w base 9 1 An nn cn (N.map encNm)
  hs : Own w base 101 1 As ns cs (xs.map encSl)
  hx : Sets w base xs S
  xp : x ≠ p
  xn : ∀ a, An = some a → a.block ≠ x
  xs_ : ∀ a, As = some a → a.block ≠ x
structure RfB (w : World) (base p x : Nat) (N : List (List UInt8)) (S : List (List (Int × Int))) : Prop where
  ex : ∃ (An : Option Addr) (nn cn : Nat) (As : Option Addr) (ns cs : Nat) (xs : List (Option Addr × Nat × Nat)), RfX w base p x An nn cn As ns cs xs N S
section
variable {w w' : World} {base p x : Nat} {An : Option Addr} {nn cn : Nat} {As : Option Addr} {ns cs : Nat} {xs : List (Option Addr × Nat × Nat)} {N : List (List UInt8)} {S : List (List (Int × Int))}
theorem RfX.below (h : RfX w base p x An nn cn As ns cs xs N S) (hb : Below w.heap.size w w') : RfX w' base p x An nn cn As ns cs xs N S := ⟨h.blk.below hb, h.pb, h.hn.below hb, h.hs.below hb, h.hx.below hb, h.xp, h.xn, h.xs_⟩
theorem RfB.below (h : RfB w base p x N S) (hb : Below w.heap.size w w') : RfB w' base p x N S := by
  obtain ⟨a1, a2, a3, a4, a5, a6, a7, h⟩ := h.ex
  exact ⟨a1, a2, a3, a4, a5, a6, a7, h.below hb⟩
theorem RfX.lenN (h : RfX w base p x An nn cn As ns cs xs N S) : N.length = nn := by simpa using h.hn.len
theorem RfX.lenS (h : RfX w base p x An nn cn As ns cs xs N S) : xs.length = ns ∧ S.length = ns := by
  have := h.hs.len; rw [List.length_map] at this
  exact ⟨this, by rw [← h.hx.len]; exact this⟩
theorem types_rf : (9 : TypeId) ≠ 101 ∧ (9 : TypeId) ≠ 73 ∧ (101 : TypeId) ≠ 73 ∧ (9 : TypeId) ≠ 129 ∧ (101 : TypeId) ≠ 129 ∧ (73 : TypeId) ≠ 129 := by decide
/-- A name more. -/
theorem RfX.named {w3 : World} {o : Obj} {n : List UInt8} {A3 : Option Addr} {c3 : Nat} (h : RfX w base p x An nn cn As ns cs xs N S) (ho3 : Own w3 base 9 1 A3 (nn + 1) c3 ((N ++ [n]).map encNm))
    (hg3 : (w.alloc o).grownBy w3 (An.map (·.block))) (hA3 : A3 = An ∨ A3 = some ⟨(w.alloc o).heap.size, 0, none⟩) (hx : x < w.heap.size) (hB : base ≤ w.heap.size) :
    Blk w3 p 73 #[.slice An nn cn, .slice As ns cs] ∧ RfX (w3.setCell ⟨p, 0, none⟩ (.slice A3 (nn + 1) c3)) base p x A3 (nn + 1) c3 As ns cs xs (N ++ [n]) S ∧
      KX base x w (w3.setCell ⟨p, 0, none⟩ (.slice A3 (nn + 1) c3)) ∧ KeepR base w (w3.setCell ⟨p, 0, none⟩ (.slice A3 (nn + 1) c3)) := by
  obtain ⟨t1, t2, t3, t4, t5, t6⟩ := types_rf
  have hg := grown_alloc hg3
  have b3 : Blk w3 p 73 #[.slice An nn cn, .slice As ns cs] := h.blk.grown hg (fun e => by cases An with | none => cases e | some a => simp at e; exact h.hn.off h.blk t2 a rfl e.symm)
  have s3 : Own w3 base 101 1 As ns cs (xs.map encSl) := h.hs.grown hg (fun a ha e => by cases An with | none => cases e | some b => simp at e; exact h.hn.apart h.hs t1 b a rfl ha e.symm)
  have x3 : Sets w3 base xs S := h.hx.grown hg (fun g q e => own_not_R h.hn t4 g q e)
  have hxA3 : ∀ a, A3 = some a → a.block ≠ x := fun a ha => by
    rcases hA3 with e | e
    · exact h.xn a (by rw [← e]; exact ha)
    · rw [e] at ha; injection ha with ha; subst ha; simp; omega
  refine ⟨b3, ⟨?_, h.pb, ?_, ?_, ?_, h.xp, hxA3, h.xs_⟩, ?_, ?_⟩
  · have := b3.set_ 0 (.slice A3 (nn + 1) c3)
    simpa using this
  · exact ho3.setCell (fun a ha => ho3.off b3 t2 a ha) _
  · exact s3.setCell (fun a ha => s3.off b3 t3 a ha) _
  · exact x3.setCell (blk_not_R b3 t6) _
  · refine (KX.grown hg hB (fun k hk => ?_)).trans (KX.setCell w3 h.pb (fun e => h.xp e.symm) _)
    cases An with
    | none => cases hk
    | some a => simp at hk; subst hk; exact ⟨(h.hn.lt a rfl).1, h.xn a rfl⟩
  · exact (KeepR.grown hg (fun g q e => own_not_R h.hn t4 g q e)).trans (KeepR.setCell (blk_not_R b3 t6) _)
/-- A set more: none yet. -/
theorem RfX.moreSet {w3 : World} {o : Obj} {A3 : Option Addr} {c3 : Nat} (h : RfX w base p x An nn cn As ns cs xs N S) (ho3 : Own w3 base 101 1 A3 (ns + 1) c3 ((xs ++ [(none, 0, 0)]).map encSl))
    (hg3 : (w.alloc o).grownBy w3 (As.map (·.block))) (hA3 : A3 = As ∨ A3 = some ⟨(w.alloc o).heap.size, 0, none⟩) (hx : x < w.heap.size) (hB : base ≤ w.heap.size) :
    Blk w3 p 73 #[.slice An nn cn, .slice As ns cs] ∧ RfX (w3.setCell ⟨p, 1, none⟩ (.slice A3 (ns + 1) c3)) base p x An nn cn A3 (ns + 1) c3 (xs ++ [(none, 0, 0)]) N (S ++ [[]]) ∧
      KX base x w (w3.setCell ⟨p, 1, none⟩ (.slice A3 (ns + 1) c3)) ∧ KeepR base w (w3.setCell ⟨p, 1, none⟩ (.slice A3 (ns + 1) c3)) := by
  obtain ⟨t1, t2, t3, t4, t5, t6⟩ := types_rf
  have hg := grown_alloc hg3
  have b3 : Blk w3 p 73 #[.slice An nn cn, .slice As ns cs] := h.blk.grown hg (fun e => by cases As with | none => cases e | some a => simp at e; exact h.hs.off h.blk t3 a rfl e.symm)
  have n3 : Own w3 base 9 1 An nn cn (N.map encNm) := h.hn.grown hg (fun a ha e => by cases As with | none => cases e | some b => simp at e; exact h.hn.apart h.hs t1 a b ha rfl e)
  have x3 : Sets w3 base xs S := h.hx.grown hg (fun g q e => own_not_R h.hs t5 g q e)
  have hxA3 : ∀ a, A3 = some a → a.block ≠ x := fun a ha => by
    rcases hA3 with e | e
    · exact h.xs_ a (by rw [← e]; exact ha)
    · rw [e] at ha; injection ha with ha; subst ha; simp; omega
  refine ⟨b3, ⟨?_, h.pb, ?_, ?_, ?_, h.xp, h.xn, hxA3⟩, ?_, ?_⟩
  · have := b3.set_ 1 (.slice A3 (ns + 1) c3)
    simpa using this
  · exact n3.setCell (fun a ha => n3.off b3 t2 a ha) _
  · exact ho3.setCell (fun a ha => ho3.off b3 t3 a ha) _
  · exact (x3.setCell (blk_not_R b3 t6) _).snoc (Own.nil_ _ _ _ _)
  · refine (KX.grown hg hB (fun k hk => ?_)).trans (KX.setCell w3 h.pb (fun e => h.xp e.symm) _)
    cases As with
    | none => cases hk
    | some a => simp at hk; subst hk; exact ⟨(h.hs.lt a rfl).1, h.xs_ a rfl⟩
  · exact (KeepR.grown hg (fun g q e => own_not_R h.hs t5 g q e)).trans (KeepR.setCell (blk_not_R b3 t6) _)
/-- A set stored. -/
theorem RfX.storeSet {g k b' : Nat} {y : Option Addr × Nat × Nat} {l : List (Int × Int)} (h : RfX w base p x An nn cn (some ⟨g, 0, none⟩) ns cs xs N S) (hk : k < ns) (ho : Own w b' 129 2 y.1 y.2.1 y.2.2 (l.map encR)) (hb : base ≤ b') :
    RfX (w.setCell ⟨g, k, none⟩ (.slice y.1 y.2.1 y.2.2)) base p x An nn cn (some ⟨g, 0, none⟩) ns cs (xs.set k y) N (S.set k l) ∧ KX base x w (w.setCell ⟨g, k, none⟩ (.slice y.1 y.2.1 y.2.2)) := by
  obtain ⟨t1, t2, t3, t4, t5, t6⟩ := types_rf
  have hgp : g ≠ p := h.hs.off h.blk t3 _ rfl
  refine ⟨⟨h.blk.far (p := ⟨g, k, none⟩) (Ne.symm hgp) _, h.pb, ?_, ?_, ?_, h.xp, h.xn, h.xs_⟩, KX.setCell w (q := ⟨g, k, none⟩) (h.hs.lt _ rfl).1 (h.xs_ ⟨g, 0, none⟩ rfl) _⟩
  · exact h.hn.setCell (p := ⟨g, k, none⟩) (fun a ha e => h.hn.apart h.hs t1 a ⟨g, 0, none⟩ ha rfl e) _
  · exact h.hs.storedSl (by rw [h.lenS.1]; exact hk) y
  · refine Sets.set_ (h.hx.setCell (q := ⟨g, k, none⟩) (fun r => own_not_R h.hs t5 g r rfl) _) ?_
    exact (ho.setCell (p := ⟨g, k, none⟩) (fun a ha e => ho.apart h.hs (Ne.symm t5) a ⟨g, 0, none⟩ ha rfl e) _).more hb
end

theorem bytes_inj {a b : List UInt8} : bytesOf a = bytesOf b ↔ a = b := ⟨fun h => by rw [← bytesOf_list a, ← bytesOf_list b, h], fun h => by rw [h]⟩
/-- Behind how many names a name stands. -/
theorem idx_step {N : List (List UInt8)} {n y : List UInt8} {i : Nat} (h : n ∉ N.take i) (hy : N[i]? = some y) : (y = n → N.idxOf? n = some i) ∧ (y ≠ n → n ∉ N.take (i + 1)) := by
  constructor
  · rintro rfl
    rw [List.idxOf?, List.findIdx?_eq_some_iff_getElem]
    obtain ⟨hlt, e⟩ := List.getElem?_eq_some_iff.1 hy
    refine ⟨hlt, by simp [e], fun j hj => ?_⟩
    simp only [Bool.not_eq_true, beq_eq_false_iff_ne]
    intro hjy
    exact h (List.mem_take_iff_getElem.2 ⟨j, by omega, by simpa using hjy⟩)
  · intro hne hm
    rw [List.take_add_one, hy] at hm
    simp at hm
    rcases hm with hm | hm
    · exact h hm
    · exact hne hm.symm
theorem idx_none {N : List (List UInt8)} {n : List UInt8} (h : n ∉ N) : N.idxOf? n = none := by
  rw [List.idxOf?, List.findIdx?_eq_none_iff]
  intro x hx
  simp only [beq_eq_false_iff_ne]
  rintro rfl; exact h hx
set_option maxRecDepth 100000 in
set_option maxHeartbeats 1000000 in
theorem vClass_any (base p x : Nat) (N : List (List UInt8)) (S : List (List (Int × Int))) (n : List UInt8) (w : World) (h : RfB w base p x N S) (hN : N.length ≤ 1000000) :
    Calls Tryz.prog 89 #[.pointer (some ⟨p, 0, none⟩), .string (bytesOf n)] w fun e w' => e = .returned (.tuple #[.int .i64 (((N.idxOf? n).getD 0 : Nat) : Int), .bool (N.idxOf? n).isSome]) ∧ w = w' := by
  obtain ⟨An, nn, cn, As, ns, cs, xs, hX⟩ := h.ex
  have hl := hX.lenN
  have Hl := Lib.hid hl
  have hrd := hX.hn.rd (by omega)
  have c0 := hX.blk.cell 0
  simp only [List.getElem?_toArray, List.getElem?_cons_zero] at c0
  have hnn : nn ≤ 1000000 := by omega
  clear hl h
  go_enter Tryz.func89, Tryz.ntmps89
  go_wp2
  go_loopw [6] (fun v wr => ∃ i : Nat, v = .int .i64 i ∧ i ≤ nn ∧ Hid (n ∉ N.take i) ∧ wr = w) (fun v _ => nn - (intOf v).toNat)
  case atStart => exact ⟨0, rfl, by omega, by simp [Hid], rfl⟩
  case round =>
    obtain ⟨i, rfl, hi, HN, rfl⟩ := hrel
    by_cases hlt : i < nn
    · obtain ⟨y, Hy⟩ : ∃ y, Hid (N[i]? = some y) := ⟨_, Lib.hid (List.getElem?_eq_getElem (show i < N.length by have := Hl.out; omega))⟩
      obtain ⟨b, off, rfl, hc⟩ := hrd.atS Hy.out
      have HI := Lib.hid (idx_step HN.out Hy.out)
      by_cases hyn : y = n
      · have HE := Lib.hid (HI.out.1 hyn)
        subst hyn
        go_wp2
        go_ret2
        exact ⟨by rw [HE.out]; rfl, rfl⟩
      · have HE := Lib.hid (HI.out.2 hyn)
        have e1 : ((bytesOf y).toList == (bytesOf n).toList) = false := by rw [ByteArray.toList_eq, ByteArray.toList_eq, bytesOf_list, bytesOf_list]; exact beq_eq_false_iff_ne.2 hyn
        have e3 : decide (bytesOf y = bytesOf n) = false := decide_eq_false (fun k => hyn (bytes_inj.1 k))
        clear hyn
        go_wp2
        go_roundw
        case rel => exact ⟨i + 1, by go_num, by omega, HE, by first | rfl | trivial⟩
        case measure => simp [intOf]; omega
    · have HE := Lib.hid (idx_none (N := N) (n := n) (by have := HN.out; rwa [List.take_of_length_le (by have := Hl.out; omega)] at this))
      go_wp2
      go_ret2
      exact ⟨by rw [HE.out]; rfl, rfl⟩
end Go.Proofs.YtlbfbkdcjdeagaaGreatDoor

/-
  kerfref04: meet, walked.
-/
namespace Go.Proofs.YtlbfbkdcjdeagaaGreatDoor
open Go.RowKit Go.Maps

def hitR (x y : Int × Int) : Bool := decide (x.1 ≤ y.2) && decide (y.1 ≤ x.2)
theorem meetB_any (a b : List (Int × Int)) : meetB a b = a.any fun x => b.any fun y => hitR x y := rfl
theorem any_next {α : Type} {l : List α} {i : Nat} {x : α} {f : α → Bool} (h : (l.take i).any f = false) (hx : l[i]? = some x) (hf : f x = false) : (l.take (i + 1)).any f = false := by
  rw [List.take_add_one, hx]; simp [List.any_append, h, hf]
theorem any_hit {α : Type} {l : List α} {i : Nat} {x : α} {f : α → Bool} (hx : l[i]? = some x) (hf : f x = true) : l.any f = true := List.any_eq_true.2 ⟨x, List.mem_of_getElem? hx, hf⟩
theorem any_all {α : Type} {l : List α} {i : Nat} {f : α → Bool} (h : (l.take i).any f = false) (hi : ¬ i < l.length) : l.any f = false := by rwa [List.take_of_length_le (by omega)] at h
set_option maxRecDepth 100000 in
set_option maxHeartbeats 2000000 in
theorem vmeet_any (A B : Option Addr) (n c m e : Nat) (l q : List (Int × Int)) (w : World) (hA : Rd w 2 A (l.map encR)) (hB : Rd w 2 B (q.map encR)) (hl : l.length = n) (hq : q.length = m) (hn : n ≤ 4000000) (hm : m ≤ 4000000) :
    Calls Tryz.prog 130 #[.slice A n c, .slice B m e] w fun e w' => e = .returned (.bool (meetB l q)) ∧ ∃ k, w' = w.drewN k := by
  have Hl := Lib.hid hl
  have Hq := Lib.hid hq
  have HMB := Lib.hid (meetB_any l q)
  go_enter Tryz.func130, Tryz.ntmps130
  go_wp2
  go_loopw [5] (fun v wr => ∃ i k : Nat, v = .int .i64 i ∧ i ≤ n ∧ Hid ((l.take i).any (fun x => q.any fun y => hitR x y) = false) ∧ wr = w.drewN k) (fun v _ => n - (intOf v).toNat)
  case atStart => exact ⟨0, 0, rfl, by omega, by simp [Hid], rfl⟩
  case round =>
    obtain ⟨i, k, rfl, hi, HI, rfl⟩ := hrel
    by_cases hlt : i < n
    · obtain ⟨bA, oA, x1, x2, rfl, Hx, hx1, hx2⟩ := hA.atR (k := i) (by have := Hl.out; omega)
      have hdi : decide (i < n) = true := decide_eq_true hlt
      go_wp2_with fail
      go_loopw [6] (fun v wr => ∃ j k2 : Nat, v = .int .i64 j ∧ j ≤ m ∧ Hid ((q.take j).any (fun y => hitR (x1, x2) y) = false) ∧ wr = w.drewN k2) (fun v _ => m - (intOf v).toNat)
      case atStart => exact ⟨0, k, rfl, by omega, by simp [Hid], rfl⟩
      case round =>
        obtain ⟨j, k2, rfl, hj, HJ, rfl⟩ := hrel
        by_cases hltj : j < m
        · obtain ⟨bB, oB, y1, y2, rfl, Hy, hy1, hy2⟩ := hB.atR (k := j) (by have := Hq.out; omega)
          rcases (by omega : ¬ x1 ≤ y2 ∨ (x1 ≤ y2 ∧ ¬ y1 ≤ x2) ∨ (x1 ≤ y2 ∧ y1 ≤ x2)) with h1 | ⟨h1, h2⟩ | ⟨h1, h2⟩
          · have HJ' := Lib.hid (any_next HJ.out Hy.out (show hitR (x1, x2) (y1, y2) = false by simp [hitR, h1]))
            have hd1 : decide (x1 ≤ y2) = false := decide_eq_false h1
            go_wp2_with fail
            go_quiet (fail)
            go_wp2
            go_roundw
            case rel => exact ⟨j + 1, _, by go_num, by omega, HJ', by first | rfl | exact World.drewN_drewN _ _ _⟩
            case measure => simp [intOf]; omega
          · have HJ' := Lib.hid (any_next HJ.out Hy.out (show hitR (x1, x2) (y1, y2) = false by simp [hitR, h2]))
            have hd1 : decide (x1 ≤ y2) = true := decide_eq_true h1
            have hd2 : decide (y1 ≤ x2) = false := decide_eq_false h2
            go_wp2_with fail
            go_quiet (fail)
            go_wp2
            go_roundw
            case rel => exact ⟨j + 1, _, by go_num, by omega, HJ', by first | rfl | exact World.drewN_drewN _ _ _⟩
            case measure => simp [intOf]; omega
          · have HE : Hid (meetB l q = true) := Lib.hid (by rw [HMB.out]; exact any_hit Hx.out (any_hit Hy.out (show hitR (x1, x2) (y1, y2) = true by simp [hitR, h1, h2])))
            have hd1 : decide (x1 ≤ y2) = true := decide_eq_true h1
            have hd2 : decide (y1 ≤ x2) = true := decide_eq_true h2
            go_wp2_with fail
            go_quiet (fail)
            go_wp2
            go_ret
            exact ⟨by rw [HE.out]; rfl, _, by first | rfl | exact World.drewN_drewN _ _ _⟩
        · have HI' := Lib.hid (any_next HI.out Hx.out (any_all HJ.out (show ¬ j < q.length by have := Hq.out; omega)))
          go_wp2
          go_roundw
          case rel => exact ⟨i + 1, k2, by go_num, by omega, HI', rfl⟩
          case measure => simp [intOf]; omega
    · have HE : Hid (meetB l q = false) := Lib.hid (by rw [HMB.out]; exact any_all HI.out (show ¬ i < l.length by have := Hl.out; omega))
      go_wp2
      go_ret
      exact ⟨by rw [HE.out]; rfl, k, rfl⟩
end Go.Proofs.YtlbfbkdcjdeagaaGreatDoor

/-
  kerfref04: spaced, Lines, walked.
-/
namespace Go.Proofs.YtlbfbkdcjdeagaaGreatDoor
open Go.RowKit Go.Maps

/-- A block of bytes that can be written. -/
structure Byt (w : World) (b : Nat) (L : List UInt8) : Prop where
  cell : ∀ j (h : j < L.length), w.cell? ⟨b, j, none⟩ = some (.int .u8 ((L[j]'h).toNat : Int))
  free : ∀ j, j < L.length → w.frozen? ⟨b, j, none⟩ = false
theorem Byt.set_ {w : World} {b : Nat} {L : List UInt8} (h : Byt w b L) {i : Nat} (hi : i < L.length) (c : UInt8) (v : Int) (hv : v = (c.toNat : Int)) : Byt (w.setCell ⟨b, i, none⟩ (.int .u8 v)) b (L.set i c) := by
  subst hv
  refine ⟨fun j hj => ?_, fun j hj => ?_⟩
  · rw [List.length_set] at hj
    by_cases e : i = j
    · subst e
      rw [World.cell?_setCell_same _ _ _ (h.cell i hi)]; simp
    · rw [World.cell?_setCell_other _ _ _ _ (fun k => e (by injection k)), h.cell j hj]; simp [List.getElem_set_ne e]
  · rw [List.length_set] at hj
    rw [World.frozen?_setCell]; exact h.free j hj
theorem byt_world (w : World) (l : List UInt8) : Byt (Lib.bytesWorld w 5 (bytesOf l)) w.heap.size l := by
  refine ⟨fun j hj => ?_, fun j hj => ?_⟩
  · have h1 := Lib.bytesWorld_cell w 5 (bytesOf l) j (by rw [bytesOf_size]; exact hj)
    rw [bytesOf_list, List.getD_eq_getElem?_getD, List.getElem?_eq_getElem hj] at h1
    exact h1
  · unfold World.frozen?
    rw [Lib.bytesWorld_at_new]
    have hc : l.length ≤ (Lib.bytesCells w 5 (bytesOf l)).size := by
      simp [Lib.bytesCells]
      rw [bytesOf_size]; omega
    simp; omega
set_option maxRecDepth 100000 in
set_option maxHeartbeats 2000000 in
theorem vspaced_any (l : List UInt8) (w : World) (hs : l.length ≤ 1000000) : Calls Tryz.prog 129 #[.string (bytesOf l)] w fun e w' => e = .returned (.string (bytesOf (spcL l))) ∧ Below w.heap.size w w' := by
  have hcv := fun W => Lib.run_convert_string_bytes (P := Tryz.prog) W 9 96 5 (bytesOf l) Tryz.underlying9 Tryz.underlying96 Tryz.underlying5
  have hsz : (bytesOf l).size = l.length := bytesOf_size l
  have Hlen : Hid ((spcL l).length = l.length) := Lib.hid (by unfold spcL; rw [List.length_map])
  go_enter Tryz.func129, Tryz.ntmps129
  go_wp2
  have hby := byt_world w l
  have hbw := below_bytesWorld w 5 (bytesOf l)
  generalize Lib.bytesWorld w 5 (bytesOf l) = w1 at hby hbw ⊢
  clear hcv
  go_loopw [4] (fun v wr => ∃ i : Nat, v = .int .i64 i ∧ i ≤ l.length ∧ Byt wr w.heap.size ((spcL l).take i ++ l.drop i) ∧ Below w.heap.size w wr) (fun v _ => l.length - (intOf v).toNat)
  case atStart => exact ⟨0, rfl, by omega, by simpa using hby, hbw⟩
  case round =>
    clear hby hbw
    obtain ⟨i, rfl, hi, hB, hb⟩ := hrel
    have hll : ((spcL l).take i ++ l.drop i).length = l.length := by rw [List.length_append, List.length_take, List.length_drop, Hlen.out]; omega
    by_cases hlt : i < l.length
    · obtain ⟨x, Hx⟩ : ∃ x, Hid (l[i]? = some x) := ⟨_, Lib.hid (List.getElem?_eq_getElem hlt)⟩
      have hgx : ((spcL l).take i ++ l.drop i)[i]'(by omega) = x := by
        have h1 : ((spcL l).take i ++ l.drop i)[i]? = some x := by
          rw [List.getElem?_append_right (by rw [List.length_take, Hlen.out]; omega), List.length_take, Hlen.out, Nat.min_eq_left (by omega), Nat.sub_self, List.getElem?_drop]; exact Hx.out
        obtain ⟨_, h2⟩ := List.getElem?_eq_some_iff.1 h1
        exact h2
      have hc := hB.cell i (by omega)
      rw [hgx] at hc
      have hf := hB.free i (by omega)
      have hnext : ∀ y, y = (if x = 9 then 32 else x) → ((spcL l).take i ++ l.drop i).set i y = (spcL l).take (i + 1) ++ l.drop (i + 1) := fun y hy => by
        have h1 : (spcL l)[i]? = some y := by unfold spcL; rw [List.getElem?_map, Hx.out, hy]; rfl
        rw [drop_at Hx.out, List.take_add_one, h1]
        have h2 : ((spcL l).take i).length = i := by rw [List.length_take, Hlen.out]; omega
        have h3 := set_mid ((spcL l).take i) x y (l.drop (i + 1))
        rw [h2] at h3
        rw [h3]; simp
      by_cases hx9 : x = 9
      · have hz : ((x.toNat : Int) == 9) = true := by rw [hx9]; rfl
        have HN := Lib.hid (hnext 32 (by rw [if_pos hx9]))
        have HB := Lib.hid (hB.set_ (i := i) (by omega) 32 32 rfl)
        rw [HN.out] at HB
        clear hnext hx9 hgx
        go_wp2
        go_roundw
        case rel => exact ⟨i + 1, by go_num, by omega, HB.out, hb.setCell (p := ⟨w.heap.size, i, none⟩) (Nat.le_refl _) _⟩
        case measure => simp [intOf]; omega
      · have hz : ((x.toNat : Int) == 9) = false := beq_eq_false_iff_ne.2 (fun e => hx9 ((u8_eq (n := 9) (by omega)).2 (by omega)))
        have HN := Lib.hid (hnext x (by rw [if_neg hx9]))
        have hsame : ((spcL l).take i ++ l.drop i).set i x = (spcL l).take i ++ l.drop i := by
          conv => lhs; rw [← hgx]
          exact List.set_getElem_self _
        rw [hsame] at HN
        clear hnext hx9 hgx hsame
        go_wp2
        go_roundw
        case rel => exact ⟨i + 1, by go_num, by omega, by rw [← HN.out]; exact hB, hb⟩
        case measure => simp [intOf]; omega
    · have HE : Hid ((spcL l).take i ++ l.drop i = spcL l) := Lib.hid (by rw [List.take_of_length_le (by rw [Hlen.out]; omega), List.drop_of_length_le (by omega), List.append_nil])
      rw [HE.out] at hB
      have hcb := fun c => run_convert_bytes_back (P := Tryz.prog) wr 96 9 5 ⟨w.heap.size, 0, none⟩ c (spcL l) Tryz.underlying96 Tryz.underlying5 Tryz.underlying9 (fun k hk => by
        have e : (⟨w.heap.size, 0, none⟩ : Addr).add k = ⟨w.heap.size, k, none⟩ := by
          unfold Addr.add
          split
          · rename_i h0; rw [h0]
          · simp
        rw [e]; exact hB.cell k hk)
      rw [Hlen.out] at hcb
      go_wp2
      go_ret
      exact ⟨rfl, hb⟩
theorem take_sub {l : List UInt8} {a b : Nat} : (bytesOf l).extract a b = bytesOf ((l.drop a).take (b - a)) := ext_bytes2 l a b
set_option maxRecDepth 100000 in
set_option maxHeartbeats 2000000 in
theorem vLines_any (t : List UInt8) (w : World) (ht : t.length ≤ 1000000) :
    Calls Tryz.prog 95 #[.string (bytesOf t)] w fun e w' => ∃ A n c, e = .returned (.slice A n c) ∧ Own w' w.heap.size 9 1 A n c ((splitL t).map encNm) ∧ Below w.heap.size w w' := by
  obtain ⟨i0, hi0, hz0, hz1, hz2⟩ := info_parts info_cloneS
  have hsz : (bytesOf t).size = t.length := bytesOf_size t
  go_enter Tryz.func95, Tryz.ntmps95
  go_wp2
  go_loopw [3, 4, 5] (fun a f v wr => ∃ (i frm : Nat) (done : List (List UInt8)) (A : Option Addr) (n c : Nat), a = .slice A n c ∧ f = .int .i64 frm ∧ v = .int .i64 i ∧ i ≤ t.length ∧ n ≤ i ∧ frm ≤ i ∧ Hid (LinesAt t i frm done) ∧ Own wr w.heap.size 9 1 A n c (done.map encNm) ∧ Below w.heap.size w wr) (fun _ _ v _ => t.length - (intOf v).toNat)
  case atStart => exact ⟨0, 0, [], none, 0, 0, rfl, rfl, rfl, by omega, by omega, by omega, LinesAt.start t, Own.nil_ _ _ _ _, Below.refl _ _⟩
  case round =>
    obtain ⟨i, frm, done, A, n, c, rfl, rfl, rfl, hi, hni, hfi, HL, ho, hb⟩ := hrel
    have hszr := hb.size
    by_cases hlt : i < t.length
    · have hp : i < (bytesOf t).size := by omega
      have hix := index_at (bytesOf t) i i rfl hp
      obtain ⟨x, hx⟩ : ∃ x, (bytesOf t)[i]'hp = x := ⟨_, rfl⟩
      have Hx : Hid (t[i]? = some x) := Lib.hid (by have := get_list hp; rw [bytesOf_list, hx] at this; exact this)
      have hgi : (((bytesOf t)[i]'hp).toNat : Int) = (x.toNat : Int) := by rw [hx]
      rw [hx] at hix
      clear hx
      by_cases hx10 : x = 10
      · have hz : ((x.toNat : Int) == 10) = true := by rw [hx10]; rfl
        have HL' := Lib.hid (LinesAt.line HL.out (by rw [Hx.out, hx10]))
        have HX := Lib.hid (take_sub (l := t) (a := frm) (b := i))
        clear hx10
        go_wp2_with (at_builtin; go_must (refine wpList_app rfl (.tmp 16) (.tmp 21) _ rfl w.heap.size 9 i0 _ 1 16 Tryz.underlying43 hi0 hz0 hz1 hz2 rfl (by omega) A n c (done.map encNm) rfl (ho.alloc _) _ 1 1 [encNm ((t.drop frm).take (i - frm))] rfl rfl (Rd.newAt (by simp) (by simp [encNm, HX.out])) (encNm_ok [(t.drop frm).take (i - frm)]) (by unfold maxLen; omega) (by omega) (by simp; omega) ?_); intro A3 c3 w3 ho3 hg3 hA3; have hb3 := below_app (hb.alloc (by omega) _) hg3 (by simp; omega) (fun a ha => (ho.lt a ha).1); clear hg3)
        have Ho3 : Own w3 w.heap.size 9 1 A3 (n + 1) c3 ((done ++ [(t.drop frm).take (i - frm)]).map encNm) := by rw [List.map_append]; exact ho3
        clear ho3
        go_roundw
        case rel => exact ⟨i + 1, i + 1, _, A3, n + 1, c3, rfl, by go_num, by go_num, by omega, by omega, by omega, HL', Ho3, hb3⟩
        case measure => simp [intOf]; omega
      · have hz : ((x.toNat : Int) == 10) = false := beq_eq_false_iff_ne.2 (fun e => hx10 ((u8_eq (n := 10) (by omega)).2 (by omega)))
        have HL' := Lib.hid (LinesAt.byte HL.out Hx.out hx10)
        clear hx10
        go_wp2
        go_roundw
        case rel => exact ⟨i + 1, frm, done, A, n, c, rfl, rfl, by go_num, by omega, by omega, by omega, HL', ho, hb⟩
        case measure => simp [intOf]; omega
    · obtain rfl : i = t.length := by omega
      have HE := Lib.hid (LinesAt.done HL.out)
      have HX := Lib.hid (ext_bytes t frm)
      rw [hsz] at HX
      go_wp2_with (at_builtin; go_must (refine wpList_app rfl (.tmp 25) (.tmp 29) _ rfl w.heap.size 9 i0 _ 1 16 Tryz.underlying43 hi0 hz0 hz1 hz2 rfl (by omega) A n c (done.map encNm) rfl (ho.alloc _) _ 1 1 [encNm (t.drop frm)] rfl rfl (Rd.newAt (by simp) (by simp [encNm, HX.out])) (encNm_ok [t.drop frm]) (by unfold maxLen; omega) (by omega) (by simp; omega) ?_); intro A3 c3 w3 ho3 hg3 hA3; have hb3 := below_app (hb.alloc (by omega) _) hg3 (by simp; omega) (fun a ha => (ho.lt a ha).1); clear hg3)
      go_ret
      exact ⟨A3, n + 1, c3, rfl, by rw [HE.out, List.map_append]; exact ho3, hb3⟩
end Go.Proofs.YtlbfbkdcjdeagaaGreatDoor

/-
  kerfref04.(*Db).line, walked.
-/
namespace Go.Proofs.YtlbfbkdcjdeagaaGreatDoor
open Go.RowKit Go.Maps

/-- What a line leaves. -/
def LineEnd (base p x : Nat) (r : Except Int DbP) (e : Ending) (w' : World) : Prop :=
  match r with
  | .error k => e = .returned (.int .i64 k)
  | .ok d' => e = .returned (.int .i64 0) ∧ RfB w' base p x d'.names d'.sets
theorem LineEnd.err {base p x : Nat} {r : Except Int DbP} {k : Int} {w' : World} (h : r = .error k) : LineEnd base p x r (.returned (.int .i64 k)) w' := by rw [h]; exact rfl
theorem LineEnd.fine {base p x : Nat} {r : Except Int DbP} {d : DbP} {w' : World} (h : r = .ok d) (hd : RfB w' base p x d.names d.sets) : LineEnd base p x r (.returned (.int .i64 0)) w' := by rw [h]; exact ⟨rfl, hd⟩
theorem stepD_nil {d : DbP} {L : List UInt8} (h : trimL (L.take (hashP L)) = []) : stepL d L = .ok d := by
  rw [stepL_doc]; unfold lineD; simp only [h, if_true]
theorem stepD_add {d : DbP} {L : List UInt8} (h : trimL (L.take (hashP L)) ≠ []) : stepL d L = addS d (L.take (hashP L)) := by
  rw [stepL_doc]; unfold lineD addS; simp only [if_neg h]
  cases findP 59 (L.take (hashP L)) with
  | none => rfl
  | some j => rfl
theorem clash_one {d : DbP} {c : Nat} {l : List (Int × Int)} (h : d.Ok) : ClashAt d c l 1 := fun q hq hqc => by
  obtain rfl : q = 0 := by omega
  have := h.head'
  rw [List.head?_eq_getElem?] at this
  rw [List.getD_eq_getElem?_getD, this]; rfl

set_option maxRecDepth 100000 in
set_option maxHeartbeats 8000000 in
theorem vline_any (p base x : Nat) (d : DbP) (L : List UInt8) (w : World) (hd : RfB w base p x d.names d.sets) (ho : d.Ok) (hx : x < w.heap.size) (hB : base ≤ w.heap.size) (hL : L.length ≤ 65536) :
    Calls Tryz.prog 96 #[.pointer (some ⟨p, 0, none⟩), .string (bytesOf L)] w fun e w' => KX base x w w' ∧ LineEnd base p x (stepL d L) e w' := by
  obtain ⟨An, nn, cn, As, ns, cs, xs, hX⟩ := hd.ex
  have hns0 : nn = ns := by have := ho.len; have h1 := hX.lenN; have h2 := hX.lenS; omega
  subst hns0
  obtain ⟨is1, his1, hzs1, hzs2, hzs3⟩ := info_parts info_cloneS
  obtain ⟨iz1, hiz1, hzz1, hzz2, hzz3⟩ := info_parts (show (Tryz.prog.info? 101).map (fun i => (i.zero, i.size, i.bytes)) = some (some (.slice none 0 0), 1, 24) by kernel_rfl)
  have HCU := Lib.hid (vcut_any L w (by omega))
  have HNIL := Lib.hid (@stepD_nil d L)
  have HADD := Lib.hid (@stepD_add d L)
  obtain ⟨u, Hu⟩ : ∃ u, Hid (L.take (hashP L) = u) := ⟨_, rfl⟩
  have hu : u.length ≤ 65536 := by rw [← Hu.out, List.length_take]; omega
  rw [Hu.out] at HCU HNIL HADD
  have hsz : (bytesOf u).size = u.length := bytesOf_size u
  have HTU := Lib.hid (fun W => vtrim_any u W (by omega))
  have HO := Lib.hid ho
  clear ho
  by_cases hnil : trimL u = []
  · have HE := Lib.hid (HNIL.out hnil)
    have hem : (bytesOf (trimL u)).toList.isEmpty = true := by rw [ByteArray.toList_eq, bytesOf_list, hnil]; rfl
    clear hnil
    go_enter Tryz.func96, Tryz.ntmps96
    go_wp2_with fail
    refine HCU.out.mono ?_
    rintro e w2 ⟨rfl, hb2⟩
    go_wp2_with fail
    refine (HTU.out w2).mono ?_
    rintro e w3 ⟨rfl, rfl⟩
    go_wp2
    go_ret
    exact ⟨KX.below hb2 hB, LineEnd.fine HE.out (RfB.below ⟨_, _, _, _, _, _, _, hX⟩ hb2)⟩
  · have HST := Lib.hid (HADD.out hnil)
    have hem : (bytesOf (trimL u)).toList.isEmpty = false := by
      rw [ByteArray.toList_eq, bytesOf_list]
      cases hq : trimL u with
      | nil => exact absurd hq hnil
      | cons a b => rfl
    clear hnil HNIL HADD
    cases hq : findP 59 u with
    | none =>
      have HE := Lib.hid (HST.out.trans (addS_none (d := d) hq))
      rw [hq] at HCU
      clear hq
      go_enter Tryz.func96, Tryz.ntmps96
      go_wp2_with fail
      refine HCU.out.mono ?_
      rw [show fv none = -1 from rfl]
      rintro e w2 ⟨rfl, hb2⟩
      go_wp2_with fail
      refine (HTU.out w2).mono ?_
      rintro e w3 ⟨rfl, rfl⟩
      go_wp2
      go_ret
      exact ⟨KX.below hb2 hB, LineEnd.err HE.out⟩
    | some j =>
      rw [hq] at HCU
      have hj : j < u.length := (List.getElem?_eq_some_iff.1 (findP_lt (c := 59) _ u (Nat.le_refl _) j hq)).1
      obtain ⟨n, Hn⟩ : ∃ n, Hid (trimL (u.drop (j + 1)) = n) := ⟨_, rfl⟩
      have hnl : n.length ≤ 65536 := by have := Hn.out; have := trimL_len (u.drop (j + 1)); rw [List.length_drop] at this; rw [← Hn.out]; omega
      have HTR := Lib.hid (fun W => vtrim_any (u.drop (j + 1)) W (by rw [List.length_drop]; omega))
      have HX1 := Lib.hid (ext_bytes u (j + 1))
      rw [hsz] at HX1
      rw [← HX1.out, Hn.out] at HTR
      have HRP := Lib.hid (fun W => vspaced_any (u.take j) W (by rw [List.length_take]; omega))
      rw [← ext_bytes0] at HRP
      have HNM := Lib.hid (addS_name (d := d) hq)
      have HPA := Lib.hid (fun hn e => addS_parse (d := d) hq hn (e := e))
      have HMA := Lib.hid (fun hn l hp e => addS_many (d := d) hq hn (l := l) hp (e := e))
      have HCL := Lib.hid (fun hn l hp c hm => addS_clash (d := d) hq hn (l := l) hp (c := c) hm)
      have HOK := Lib.hid (fun hn l hp c hm => addS_ok (d := d) hq hn (l := l) hp (c := c) hm)
      rw [Hn.out] at HNM HPA HMA HCL HOK
      rw [← HST.out] at HNM HPA HMA HCL HOK
      clear hq HST
      go_enter Tryz.func96, Tryz.ntmps96
      go_wp2_with fail
      refine HCU.out.mono ?_
      rw [show fv (some j) = (j : Int) from rfl]
      rintro e w2 ⟨rfl, hb2⟩
      go_wp2_with fail
      refine (HTU.out w2).mono ?_
      rintro e w3 ⟨rfl, rfl⟩
      go_wp2_with fail
      refine (HTR.out w2).mono ?_
      rintro e w3 ⟨rfl, rfl⟩
      go_wp2_with fail
      refine (vName_any n w2 (by omega)).mono ?_
      rintro e w4 ⟨rfl, hb4⟩
      have hb := below_two hb2 hb4
      clear hb2 hb4
      have hX4 := hX.below hb
      cases hnm : nameL n with
      | false =>
        have HE := Lib.hid (HNM.out (.inl hnm))
        go_wp2
        go_ret
        exact ⟨KX.below hb hB, LineEnd.err HE.out⟩
      | true =>
        by_cases hot : n = otherL
        · have HE := Lib.hid (HNM.out (.inr hot))
          have heq : ((bytesOf n).toList == [79, 116, 104, 101, 114]) = true := by rw [ByteArray.toList_eq, bytesOf_list, hot]; rfl
          clear hot hnm HNM
          go_wp2
          go_ret
          exact ⟨KX.below hb hB, LineEnd.err HE.out⟩
        · have heq : ((bytesOf n).toList == [79, 116, 104, 101, 114]) = false := by rw [ByteArray.toList_eq, bytesOf_list]; exact beq_eq_false_iff_ne.2 hot
          have HNN : Hid (¬ (nameL n = false ∨ n = otherL)) := Lib.hid (fun h => by rcases h with h | h; rw [hnm] at h; cases h; exact hot h)
          clear hnm hot HNM
          go_wp2_with fail
          refine (HRP.out w4).mono ?_
          rintro e w5 ⟨rfl, hb5⟩
          go_wp2_with fail
          refine (sParse_any (bytesOf (spcL (u.take j))) w5 (by rw [bytesOf_size, spcL_len, List.length_take]; omega)).mono ?_
          rintro e w6 ⟨hb6, hpe⟩
          have hb6' := below_two (below_two hb hb5) hb6
          have hX6 := hX.below hb6'
          have hKX6 := KX.below (x := x) hb6' hB
          have hB6 : base ≤ w6.heap.size := Nat.le_trans hB hb6'.size
          have hx6 : x < w6.heap.size := Nat.lt_of_lt_of_le hx hb6'.size
          clear hX hX4 HTR HRP HCU HTU HX1
          cases hps : parseP (bytesOf (spcL (u.take j))) with
          | error y =>
            rw [hps] at hpe
            have hpe' : e = .returned (.tuple #[.slice none 0 0, .int .i64 y.1, .int .i64 y.2]) := hpe
            subst hpe'
            have hcode := parse_code hps
            have hne : ((y.1 : Int) != 0) = true := by rw [bne_iff_ne]; omega
            have HE := Lib.hid (HPA.out HNN.out y.1 (parseE_err hps))
            clear hps hpe
            go_wp2
            go_ret
            exact ⟨hKX6, LineEnd.err HE.out⟩
          | ok l0 =>
            rw [hps] at hpe
            obtain ⟨A1, n1, c1, rfl, ho1⟩ := hpe
            have HPE := Lib.hid (parseE_ok hps)
            obtain ⟨q, Hq⟩ : ∃ q, Hid (normR l0 = q) := ⟨_, rfl⟩
            have HNFq : Hid (NF q) := Lib.hid (by rw [← Hq.out]; exact normR_NF l0)
            rw [Hq.out] at ho1
            have ho1 := ho1.more (b' := base) (by have := hb5.size; have := hb.size; omega)
            have hn1 := own_nf_len ho1 HNFq.out
            have hnn : nn ≤ 64 := by have := HO.out.few; have := hX6.lenN; omega
            have HNB : Hid (nbrP d n = match d.names.idxOf? n with | some c => .ok c | none => if 64 ≤ d.names.length then .error 6 else .ok d.names.length) := rfl
            clear hps
            go_wp2_with fail
            refine (vClass_any base p x d.names d.sets n w6 ⟨_, _, _, _, _, _, _, hX6⟩ (by have := hX6.lenN; omega)).mono ?_
            rintro e w7 ⟨rfl, rfl⟩
            have hlS := hX6.lenS
            have hlN := hX6.lenN
            have hn0 : 0 < nn := by
              have h1 := HO.out.head
              cases hd : d.names with
              | nil => rw [hd] at h1; cases h1
              | cons a b => rw [hd] at hlN; simp at hlN; omega
            have c0 := hX6.blk.cell 0
            have c1' := hX6.blk.cell 1
            simp only [List.getElem?_toArray, List.getElem?_cons_zero, List.getElem?_cons_succ] at c0 c1'
            obtain ⟨g, HAs, _, _⟩ := hX6.hs.form hn0
            cases hix : d.names.idxOf? n with
            | some c =>
              rw [hix] at HNB
              have HCL' := Lib.hid (fun h => HCL.out HNN.out l0 HPE.out c HNB.out (by rw [Hq.out]; exact h))
              have HOK' := Lib.hid (fun h => HOK.out HNN.out l0 HPE.out c HNB.out (by rw [Hq.out]; exact h))
              rw [Hq.out] at HOK'
              have hclt : c < nn := by have := (List.getElem?_eq_some_iff.1 (idxOf?_some hix)).1; omega
              rw [show ((some c).getD 0 : Nat) = c from rfl, show (some c).isSome = true from rfl]
              clear hix
              go_wp2_with fail
              go_loopw [12] (fun v wr => ∃ (k m : Nat), v = .int .i64 k ∧ k ≤ nn ∧ Hid (ClashAt d c q k) ∧ wr = w6.drewN m) (fun v _ => nn - (intOf v).toNat)
              case atStart => exact ⟨1, 0, rfl, by omega, clash_one HO.out, rfl⟩
              case round =>
                obtain ⟨k, m, rfl, hk, HC, rfl⟩ := hrel
                by_cases hlt : k < nn
                · obtain ⟨s, Hs⟩ : ∃ s, Hid (d.sets[k]? = some s) := ⟨_, Lib.hid (List.getElem?_eq_getElem (show k < d.sets.length by omega))⟩
                  obtain ⟨y, Hy⟩ : ∃ y, Hid (xs[k]? = some y) := ⟨_, Lib.hid (List.getElem?_eq_getElem (show k < xs.length by omega))⟩
                  have hoy := hX6.hx.own k y s Hy.out Hs.out
                  have HNFs : Hid (NF s) := Lib.hid (HO.out.nf s (List.mem_of_getElem? Hs.out))
                  have hny := own_nf_len hoy HNFs.out
                  have hly : s.length = y.2.1 := by simpa using hoy.len
                  have hcell := hX6.hs.cell' HAs (k := k) (y := y) Hy.out
                  subst HAs
                  by_cases hkc : k = c
                  · have hbb : ((k : Int) != (c : Int)) = false := by rw [hkc]; simp
                    have HC' := Lib.hid (clashAt_next HC.out Hs.out (.inl hkc))
                    clear hkc
                    go_wp2
                    go_roundw
                    case rel => exact ⟨k + 1, m, by go_num, by omega, HC', rfl⟩
                    case measure => simp [intOf]; omega
                  · have hbb : ((k : Int) != (c : Int)) = true := by rw [bne_iff_ne]; omega
                    cases hmt : meetB s q with
                    | true =>
                      have HE := Lib.hid (HCL'.out (clash_here Hs.out hkc hmt))
                      clear hkc
                      go_wp2_with (go_at_call 130; refine (vmeet_any y.1 A1 y.2.1 y.2.2 n1 c1 s q (w6.drewN m) ((hoy.rd (by omega)).drewN m) ((ho1.rd (by omega)).drewN m) hly (by simpa using ho1.len) (by omega) (by omega)).mono ?_; rw [hmt]; rintro e w8 ⟨rfl, m2, rfl⟩)
                      go_ret
                      exact ⟨hKX6.trans (KX.below (by first | exact below_refl_drewN _ _ | exact below_drewN (below_refl_drewN _ _) _) hB6), LineEnd.err HE.out⟩
                    | false =>
                      have HC' := Lib.hid (clashAt_next HC.out Hs.out (.inr hmt))
                      clear hkc
                      go_wp2_with (go_at_call 130; refine (vmeet_any y.1 A1 y.2.1 y.2.2 n1 c1 s q (w6.drewN m) ((hoy.rd (by omega)).drewN m) ((ho1.rd (by omega)).drewN m) hly (by simpa using ho1.len) (by omega) (by omega)).mono ?_; rw [hmt]; rintro e w8 ⟨rfl, m2, rfl⟩)
                      go_roundw
                      case rel => exact ⟨k + 1, _, by go_num, by omega, HC', by first | rfl | exact World.drewN_drewN _ _ _⟩
                      case measure => simp [intOf]; omega
                · have HC2 := Lib.hid (HOK'.out (clashAt_end HC.out (show ¬ k < d.sets.length by omega)))
                  have hbm : Below w6.heap.size w6 (w6.drewN m) := below_refl_drewN _ _
                  have hXm := hX6.below hbm
                  have hom := ho1.below hbm
                  have hKt := hKX6.trans (KX.below hbm hB6)
                  have hBt : base ≤ (w6.drewN m).heap.size := hB6
                  generalize w6.drewN m = wm at hXm hom hKt hBt ⊢
                  have hXmN := hXm.lenN
                  have HP' : Hid (putP d n c q = ⟨d.names, d.sets.set c (orR (d.sets.getD c []) q)⟩) := Lib.hid (putP_old (by omega))
                  obtain ⟨l1, Hl1⟩ : ∃ l1, Hid (d.sets[c]? = some l1) := ⟨_, Lib.hid (List.getElem?_eq_getElem (show c < d.sets.length by omega))⟩
                  have HP2 : Hid (stepL d L = .ok ⟨d.names, d.sets.set c (orR l1 q)⟩) := Lib.hid (by rw [HC2.out, HP'.out, List.getD_eq_getElem?_getD, Hl1.out]; rfl)
                  obtain ⟨y, Hxc⟩ : ∃ y, Hid (xs[c]? = some y) := ⟨_, Lib.hid (List.getElem?_eq_getElem (show c < xs.length by omega))⟩
                  have hoy := hXm.hx.own c y l1 Hxc.out Hl1.out
                  have hny := own_nf_len hoy (HO.out.nf l1 (List.mem_of_getElem? Hl1.out))
                  have hrd0 := hoy.rd (by omega)
                  have hrd1 := hom.rd (by omega)
                  have hlen0 : l1.length = y.2.1 := by simpa using hoy.len
                  have hlen1 : q.length = n1 := by simpa using hom.len
                  have k0 := hXm.blk.cell 0
                  simp at k0
                  clear hX6 ho1 HC HCL' HOK' c0 c1' hKX6 hB6 hx6 hbm HAs hXmN hlN
                  go_wp2_with fail
                  obtain ⟨g, HAs, _, _⟩ := hXm.hs.form (show 0 < nn by omega)
                  have hcell := hXm.hs.cell' HAs (k := c) (y := y) Hxc.out
                  subst HAs
                  have k1 := hXm.blk.cell 1
                  simp at k1
                  have hXd := hXm.below (w' := wm.drew) ((Below.refl _ _).drew)
                  have HOR := Lib.hid (sOr_any y.1 A1 y.2.1 y.2.2 n1 c1 l1 q wm.drew hrd0.drew hrd1.drew hlen0 hlen1 (by omega))
                  refine wp_region_noPanic ?_
                  go_region_law (go_simp; go_at_call 131; refine HOR.out.mono ?_; rintro e wz ⟨A', n', c', rfl, ho', hb'⟩; have kz1 := cell_keep (w := wm.drew) k1 hb'; have kzc := cell_keep (w := wm.drew) hcell hb'; have kzf := (hXd.hs.below hb').frozen c)
                  all_goals
                    refine NoPanic.normal ?_
                    have hDz := (hXd.below hb').storeSet (k := c) (y := (A', n', c')) (show c < nn by omega) ho' hBt
                    have hKz := (hKt.trans ((KX.below ((Below.refl _ _).drew) hBt).trans (KX.below hb' hBt))).trans hDz.2
                    go_wp2
                    go_ret
                    exact ⟨hKz, LineEnd.fine HP2.out ⟨_, _, _, _, _, _, _, hDz.1⟩⟩

            | none =>
              rw [hix] at HNB
              rw [show ((none : Option Nat).getD 0 : Nat) = 0 from rfl, show (none : Option Nat).isSome = false from rfl]
              clear hix
              by_cases h64 : 64 ≤ nn
              · have HE := Lib.hid (HMA.out HNN.out l0 HPE.out 6 (by rw [HNB.out]; exact if_pos (by omega)))
                have h64b : (64 : Int) ≤ nn := by omega
                clear hlN
                go_wp2
                go_ret
                exact ⟨hKX6, LineEnd.err HE.out⟩
              · have HNB2 : Hid (nbrP d n = .ok nn) := Lib.hid (by rw [HNB.out, ← hlN]; exact if_neg (by omega))
                obtain ⟨c, Hc⟩ : ∃ c, Hid (c = nn) := ⟨_, rfl⟩
                have HCL' := Lib.hid (fun h => HCL.out HNN.out l0 HPE.out nn HNB2.out (by rw [Hq.out]; exact h))
                have HOK' := Lib.hid (fun h => HOK.out HNN.out l0 HPE.out nn HNB2.out (by rw [Hq.out]; exact h))
                rw [Hq.out] at HOK'
                have h64b : ¬ (64 : Int) ≤ nn := by omega
                go_wp2_with fail
                go_loopw [12] (fun v wr => ∃ (k m : Nat), v = .int .i64 k ∧ k ≤ nn ∧ Hid (ClashAt d nn q k) ∧ wr = w6.drewN m) (fun v _ => nn - (intOf v).toNat)
                case atStart => exact ⟨1, 0, rfl, by omega, clash_one HO.out, rfl⟩
                case round =>
                  obtain ⟨k, m, rfl, hk, HC, rfl⟩ := hrel
                  by_cases hlt : k < nn
                  · obtain ⟨s, Hs⟩ : ∃ s, Hid (d.sets[k]? = some s) := ⟨_, Lib.hid (List.getElem?_eq_getElem (show k < d.sets.length by omega))⟩
                    obtain ⟨y, Hy⟩ : ∃ y, Hid (xs[k]? = some y) := ⟨_, Lib.hid (List.getElem?_eq_getElem (show k < xs.length by omega))⟩
                    have hoy := hX6.hx.own k y s Hy.out Hs.out
                    have HNFs : Hid (NF s) := Lib.hid (HO.out.nf s (List.mem_of_getElem? Hs.out))
                    have hny := own_nf_len hoy HNFs.out
                    have hly : s.length = y.2.1 := by simpa using hoy.len
                    have hcell := hX6.hs.cell' HAs (k := k) (y := y) Hy.out
                    subst HAs
                    by_cases hkc : k = nn
                    · have hbb : ((k : Int) != (nn : Int)) = false := by rw [hkc]; simp
                      have HC' := Lib.hid (clashAt_next HC.out Hs.out (.inl hkc))
                      clear hkc
                      go_wp2
                      go_roundw
                      case rel => exact ⟨k + 1, m, by go_num, by omega, HC', rfl⟩
                      case measure => simp [intOf]; omega
                    · have hbb : ((k : Int) != (nn : Int)) = true := by rw [bne_iff_ne]; omega
                      cases hmt : meetB s q with
                      | true =>
                        have HE := Lib.hid (HCL'.out (clash_here Hs.out hkc hmt))
                        clear hkc
                        go_wp2_with (go_at_call 130; refine (vmeet_any y.1 A1 y.2.1 y.2.2 n1 c1 s q (w6.drewN m) ((hoy.rd (by omega)).drewN m) ((ho1.rd (by omega)).drewN m) hly (by simpa using ho1.len) (by omega) (by omega)).mono ?_; rw [hmt]; rintro e w8 ⟨rfl, m2, rfl⟩)
                        go_ret
                        exact ⟨hKX6.trans (KX.below (by first | exact below_refl_drewN _ _ | exact below_drewN (below_refl_drewN _ _) _) hB6), LineEnd.err HE.out⟩
                      | false =>
                        have HC' := Lib.hid (clashAt_next HC.out Hs.out (.inr hmt))
                        clear hkc
                        go_wp2_with (go_at_call 130; refine (vmeet_any y.1 A1 y.2.1 y.2.2 n1 c1 s q (w6.drewN m) ((hoy.rd (by omega)).drewN m) ((ho1.rd (by omega)).drewN m) hly (by simpa using ho1.len) (by omega) (by omega)).mono ?_; rw [hmt]; rintro e w8 ⟨rfl, m2, rfl⟩)
                        go_roundw
                        case rel => exact ⟨k + 1, _, by go_num, by omega, HC', by first | rfl | exact World.drewN_drewN _ _ _⟩
                        case measure => simp [intOf]; omega
                  · have HC2 := Lib.hid (HOK'.out (clashAt_end HC.out (show ¬ k < d.sets.length by omega)))
                    have hbm : Below w6.heap.size w6 (w6.drewN m) := below_refl_drewN _ _
                    have hXm := hX6.below hbm
                    have hom := ho1.below hbm
                    have hKm := hKX6.trans (KX.below hbm hB6)
                    have hBm : base ≤ (w6.drewN m).heap.size := hB6
                    have hxm : x < (w6.drewN m).heap.size := hx6
                    generalize w6.drewN m = wm at hXm hom hKm hBm hxm ⊢
                    have HP2 : Hid (stepL d L = .ok ⟨d.names ++ [n], (d.sets ++ [[]]).set nn (orR [] q)⟩) := Lib.hid (by
                      have e : (d.sets ++ [[]]).set nn (orR [] q) = d.sets ++ [orR [] q] := by
                        have := set_mid d.sets [] (orR [] q) []
                        rw [show nn = d.sets.length by omega]; exact this
                      rw [HC2.out, e, ← hXm.lenN]; exact congrArg Except.ok putP_new)
                    have Hxc : Hid ((xs ++ [((none : Option Addr), 0, 0)])[nn]? = some (none, 0, 0)) := Lib.hid (by rw [show nn = xs.length by omega]; exact get_mid xs _ [])
                    have hclt : nn < nn + 1 := by omega
                    have k0 := hXm.blk.cell 0
                    simp at k0
                    have on8 := hXm.hn
                    clear hX6 ho1 HC HCL' HOK' c0 c1' hKX6 hB6 hx6 hbm HAs hlN
                    go_wp2_with (first
                      | (at_builtin; refine wpList_app rfl (.tmp 95) (.tmp 97) _ rfl base 9 is1 _ 1 16 Tryz.underlying43 his1 hzs1 hzs2 hzs3 rfl (by omega) An nn cn (d.names.map encNm) rfl (on8.alloc _) _ 1 1 [encNm n] rfl rfl (Rd.newAt (by simp) rfl) (encNm_ok [n]) (by unfold maxLen; omega) (by omega) (by simp; omega) ?_; intro A3 c3 w9 ho9 hg9 hA9; have HN9 := hXm.named (by rw [List.map_append]; exact ho9) hg9 hA9 hxm hBm; have k90 := HN9.1.cell 0; have f90 := HN9.1.frozen 0; have k92 := HN9.2.1.blk.cell 1; simp only [List.getElem?_toArray, List.getElem?_cons_zero, List.getElem?_cons_succ] at k90 k92; have hz9 : wm.heap.size ≤ (w9.setCell ⟨p, 0, none⟩ (.slice A3 (nn + 1) c3)).heap.size := HN9.2.2.1.1.size)
                      | (at_builtin; refine wpList_app rfl (.tmp 105) (.tmp 106) _ rfl base 101 iz1 _ 1 24 Tryz.underlying71 hiz1 hzz1 hzz2 hzz3 rfl (by omega) As nn cs (xs.map encSl) rfl (HN9.2.1.hs.alloc _) _ 1 1 [encSl (none, 0, 0)] rfl rfl (Rd.newAt (by simp [World.setCell]) rfl) (encSl_ok [(none, 0, 0)]) (by unfold maxLen; omega) (by omega) (by simp [World.setCell] at hz9 ⊢; omega) ?_; intro A6 c6 w11 ho11 hg11 hA11; have HM := HN9.2.1.moreSet (by rw [List.map_append]; exact ho11) hg11 hA11 (by omega) (by omega); have k110 := HM.1.cell 1; have f110 := HM.1.frozen 1; have k112 := HM.2.1.blk.cell 1; simp only [List.getElem?_toArray, List.getElem?_cons_zero, List.getElem?_cons_succ] at k110 k112)
                      | fail)
                    have hXt := HM.2.1
                    have hKt := (hKm.trans HN9.2.2.1).trans HM.2.2.1
                    have hot := (hom.keepR HN9.2.2.2 (Nat.le_refl _)).keepR HM.2.2.2 (Nat.le_refl _)
                    have hBt : base ≤ (w11.setCell ⟨p, 1, none⟩ (.slice A6 (nn + 1) c6)).heap.size := Nat.le_trans hBm (Nat.le_trans hz9 HM.2.2.1.1.size)
                    clear HM HN9 hg9 hA9 ho9 k90 f90 k92 hz9 hg11 hA11 ho11 k110 f110 k112 hXm hom hKm hBm hxm k0 on8
                    generalize w11.setCell ⟨p, 1, none⟩ (.slice A6 (nn + 1) c6) = wt at hXt hKt hot hBt ⊢
                    have hrd0 : Rd wt 2 none (([] : List (Int × Int)).map encR) := Rd.nil_ _ _ _
                    have hrd1 := hot.rd (by omega)
                    have hlen0 : ([] : List (Int × Int)).length = 0 := rfl
                    have hlen1 : q.length = n1 := by simpa using hot.len
                    have hcI : (nn : Int) < (nn : Int) + 1 := by omega
                    obtain ⟨g, HAs, _, _⟩ := hXt.hs.form (show 0 < nn + 1 by omega)
                    have hcell := hXt.hs.cell' HAs (k := nn) (y := ((none : Option Addr), 0, 0)) Hxc.out
                    subst HAs
                    have k1 := hXt.blk.cell 1
                    simp at k1
                    have hXd := hXt.below (w' := wt.drew) ((Below.refl _ _).drew)
                    have HOR := Lib.hid (sOr_any none A1 0 0 n1 c1 [] q wt.drew hrd0.drew hrd1.drew hlen0 hlen1 (by omega))
                    refine wp_region_noPanic ?_
                    go_region_law (go_simp; go_at_call 131; refine HOR.out.mono ?_; rintro e wz ⟨A', n', c', rfl, ho', hb'⟩; have kz1 := cell_keep (w := wt.drew) k1 hb'; have kzc := cell_keep (w := wt.drew) hcell hb'; have kzf := (hXd.hs.below hb').frozen nn)
                    all_goals
                      refine NoPanic.normal ?_
                      have hDz := (hXd.below hb').storeSet (k := nn) (y := (A', n', c')) (show nn < nn + 1 by omega) ho' hBt
                      have hKz := (hKt.trans ((KX.below ((Below.refl _ _).drew) hBt).trans (KX.below hb' hBt))).trans hDz.2
                      go_wp2
                      go_ret
                      exact ⟨hKz, LineEnd.fine HP2.out ⟨_, _, _, _, _, _, _, hDz.1⟩⟩
end Go.Proofs.YtlbfbkdcjdeagaaGreatDoor

