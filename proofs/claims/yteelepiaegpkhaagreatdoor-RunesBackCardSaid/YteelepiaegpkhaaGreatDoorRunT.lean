/-
  runes.Runs: the iterator over the runs of a text.
-/
import Derived.Test.YteelepiaegpkhaaGreatDoorTxt
import Derived.Test.YteelepiaegpkhaaGreatDoorRunD
import Derived.Test.YteelepiaegpkhaaGreatDoorRefT
import Derived.RangeFuncNested
import Derived.RangeFuncBound
import Derived.RangeFuncCalls
import Derived.RangeFuncLeaves
import Derived.Shelf.Abstract
import Derived.Shelf.RegionOpen
import Derived.OwnWalkIn
import Derived.TacticsInMore
import Derived.LoopNIn
import Derived.LoopIn
namespace Go.Proofs.YteelepiaegpkhaaGreatDoor
open Go.RowKit Go.Shelf
attribute [local go_sem] Oper.semAt_some

/-- What lies from block m on and below block n stands as it stood. -/
structure Mid (m n : Nat) (W W' : World) : Prop where
  size : W.heap.size ≤ W'.heap.size
  block : ∀ k, m ≤ k → k < n → W'.heap[k]? = W.heap[k]?
theorem Mid.refl (m n : Nat) (W : World) : Mid m n W W := ⟨Nat.le_refl _, fun _ _ _ => rfl⟩
theorem Mid.trans {m n : Nat} {A B C : World} (h : Mid m n A B) (k : Mid m n B C) : Mid m n A C := ⟨Nat.le_trans h.size k.size, fun i h1 h2 => (k.block i h1 h2).trans (h.block i h1 h2)⟩
theorem Mid.of_below {m n : Nat} {A B : World} (h : RowKit.Below A.heap.size A B) (hn : n ≤ A.heap.size) : Mid m n A B := ⟨h.size, fun i _ h2 => h.block i (by omega)⟩
theorem Mid.of_belowB {m n b : Nat} {A B : World} (h : RowKit.Below b A B) (hn : n ≤ b) : Mid m n A B := ⟨h.size, fun i _ h2 => h.block i (by omega)⟩
theorem Mid.setCell {m n : Nat} {A B : World} (h : Mid m n A B) {p : Addr} (hp : p.block < m ∨ n ≤ p.block) (u : Value) : Mid m n A (B.setCell p u) :=
  ⟨by simpa [World.setCell] using h.size, fun i h1 h2 => (Below.heap_setCell B p u i (by omega)).trans (h.block i h1 h2)⟩
theorem Mid.alloc {m n : Nat} {A B : World} (h : Mid m n A B) (hn : n ≤ B.heap.size) (o : Obj) : Mid m n A (B.alloc o) := h.trans (Mid.of_below ((RowKit.Below.refl _ _).alloc (Nat.le_refl _) o) hn)
theorem Mid.drewN {m n : Nat} {A B : World} (h : Mid m n A B) (q : Nat) : Mid m n A (B.drewN q) := ⟨h.size, h.block⟩
theorem Mid.cell {m n : Nat} {A B : World} (h : Mid m n A B) {p : Addr} {v : Value} (hv : A.cell? p = some v) (h1 : m ≤ p.block) (h2 : p.block < n) : B.cell? p = some v :=
  (World.cell?_of_block (h.block p.block h1 h2)).trans hv
theorem Rd.mid {m n s : Nat} {w w' : World} {A : Option Addr} {cs : List (List Value)} (h : Rd w s A cs) (hb : Mid m n w w') (hA : ∀ a, A = some a → m ≤ a.block ∧ a.block < n) : Rd w' s A cs :=
  h.keep fun b off i _ ha hp => hb.cell (p := ⟨b, i, none⟩) hp (hA ⟨b, off, none⟩ ha).1 (hA ⟨b, off, none⟩ ha).2
/-- What a round that goes on keeps for an iterator: what lies from m on and below n, and iterators. -/
def Kp (m n : Nat) (W W' : World) : Prop := Mid m n W W' ∧ KeepsWalks W W'
theorem Kp.trans {m n : Nat} {A B C : World} (h : Kp m n A B) (k : Kp m n B C) : Kp m n A C := ⟨h.1.trans k.1, h.2.trans k.2⟩
theorem Kp.put {m n : Nat} {w : World} (hn : n ≤ w.heap.size) (W : World) (l : Nat) (o o' : Obj) (hl : w.heap.size ≤ l) (h : W.heap[l]? = some o) (hc : o.isCells = false) (hw : o.isWalk = false) : Kp m n W (W.putObj l o') :=
  ⟨⟨by simp, fun k _ hk => World.putObj_heap_other (by omega)⟩, walksK_b W l o o' hl h hc hw⟩
theorem Kp.refl (m n : Nat) (W : World) : Kp m n W W := ⟨Mid.refl _ _ _, KeepsWalks.refl _⟩
theorem grown_of_below {w w' : World} (h : RowKit.Below w.heap.size w w') : w.grownBy w' none := ⟨h.os, h.tape, h.output, h.size, fun k hk _ => h.block k hk⟩
theorem grown_iterAt (w : World) (k : Nat) (s : ByteArray) (p : Nat) : w.grownBy (w.iterAt k s p) (some k) :=
  ⟨rfl, rfl, rfl, by rw [Lib.iterAt_size]; exact Nat.le_refl _, fun j _ hj => Lib.iterAt_other w k j s p (fun e => hj (by rw [e]))⟩
theorem abides_below {β : Type} {B : Nat} {J : β → World → Prop} (h : AbidesFrom B J) {x : β} {w w' : World} (hx : J x w) (hb : RowKit.Below w.heap.size w w') : J x w' := h x w w' none hx (grown_of_below hb) (fun _ e => by cases e)
theorem abides_iterAt {β : Type} {B : Nat} {J : β → World → Prop} (h : AbidesFrom B J) {x : β} {w : World} (hx : J x w) {k : Nat} {s : ByteArray} {p : Nat} (hk : w.heap[k]? = some (.stringIter s p)) (hB : B ≤ k) (p' : Nat) : J x (w.iterAt k s p') :=
  h x w _ (some k) hx (grown_iterAt w k s p') (fun r e => by cases e; exact ⟨hB, _, hk, rfl⟩)

def curV : Option Nat → Int
  | none => -1
  | some a => a
/-- How far the runs have come. -/
def RunsAt (s : ByteArray) (set : List (Int × Int)) (f p : Nat) (cur : Option Nat) (pre : List (Nat × Nat)) : Prop :=
  pre ++ runsGo (hasB set) s.size cur (runesGo s f p) = runsP s set ∧ s.size ≤ p + f ∧ p ≤ s.size ∧ ∀ a, cur = some a → a < p
section
variable {s : ByteArray} {set : List (Int × Int)} {f p : Nat} {cur : Option Nat} {pre : List (Nat × Nat)} {R W : Nat}
theorem runsAt_go (h : RunsAt s set f p cur pre) (hp : p < s.size) (hd : Utf8.decode s p = (R, W)) : ∃ g, f = g + 1 ∧ pre ++ runsGo (hasB set) s.size cur ((R, p, p + W) :: runesGo s g (p + W)) = runsP s set := by
  obtain ⟨g, rfl, hg⟩ := runesGo_step (s := s) (f := f) hp h.2.1
  rw [hd] at hg
  exact ⟨g, rfl, by rw [← h.1, hg]⟩
theorem runsAt_in (h : RunsAt s set f p none pre) (hp : p < s.size) (hd : Utf8.decode s p = (R, W)) (hw : 1 ≤ W ∧ p + W ≤ s.size) (hh : hasB set R = true) : ∃ g, RunsAt s set g (p + W) (some p) pre := by
  obtain ⟨g, rfl, hg⟩ := runsAt_go h hp hd
  rw [runsGo, if_pos hh] at hg
  exact ⟨g, hg, by have := h.2.1; omega, hw.2, fun a ha => by cases ha; omega⟩
theorem runsAt_out (h : RunsAt s set f p none pre) (hp : p < s.size) (hd : Utf8.decode s p = (R, W)) (hw : 1 ≤ W ∧ p + W ≤ s.size) (hh : hasB set R = false) : ∃ g, RunsAt s set g (p + W) none pre := by
  obtain ⟨g, rfl, hg⟩ := runsAt_go h hp hd
  rw [runsGo, if_neg (by rw [hh]; exact Bool.false_ne_true)] at hg
  exact ⟨g, hg, by have := h.2.1; omega, hw.2, fun a ha => by cases ha⟩
theorem runsAt_on {a : Nat} (h : RunsAt s set f p (some a) pre) (hp : p < s.size) (hd : Utf8.decode s p = (R, W)) (hw : 1 ≤ W ∧ p + W ≤ s.size) (hh : hasB set R = true) : ∃ g, RunsAt s set g (p + W) (some a) pre := by
  obtain ⟨g, rfl, hg⟩ := runsAt_go h hp hd
  rw [runsGo, if_pos hh] at hg
  exact ⟨g, hg, by have := h.2.1; omega, hw.2, fun b hb => by have := h.2.2.2 b hb; omega⟩
theorem runsAt_off {a : Nat} (h : RunsAt s set f p (some a) pre) (hp : p < s.size) (hd : Utf8.decode s p = (R, W)) (hw : 1 ≤ W ∧ p + W ≤ s.size) (hh : hasB set R = false) :
    (∃ g, RunsAt s set g (p + W) none (pre ++ [(a, p)])) ∧ pre ++ [(a, p)] <+: runsP s set := by
  obtain ⟨g, rfl, hg⟩ := runsAt_go h hp hd
  rw [runsGo, if_neg (by rw [hh]; exact Bool.false_ne_true)] at hg
  refine ⟨⟨g, by rw [← hg]; simp, by have := h.2.1; omega, hw.2, fun a ha => by cases ha⟩, ⟨_, by rw [← hg]; simp; rfl⟩⟩
theorem runsAt_end (h : RunsAt s set f p none pre) (hp : ¬ p < s.size) : pre = runsP s set := by
  have := h.1
  rw [runesGo_end (by omega), runsGo, List.append_nil] at this
  exact this
theorem runsAt_last {a : Nat} (h : RunsAt s set f p (some a) pre) (hp : ¬ p < s.size) : pre ++ [(a, s.size)] = runsP s set := by
  have := h.1
  rw [runesGo_end (by omega), runsGo] at this
  exact this
end
def encP (x : Nat × Nat) : Array Value := #[.int .i64 x.1, .int .i64 x.2]

set_option maxRecDepth 100000 in
set_option maxHeartbeats 2000000 in
theorem runs1_in (n : Nat) (hn : 1 ≤ n) (l bs bset m n₀ : Nat) (A : Option Addr) (na ca : Nat) (s : ByteArray) (set : List (Int × Int)) (J Jx : List (Nat × Nat) → World → Prop) (W : World)
    (hs : s.size ≤ 1000000) (hna : na ≤ 4000000) (hl : set.length = na)
    (hJ : AbidesFrom W.heap.size J) (hbs : m ≤ bs ∧ bs < n₀) (hbt : m ≤ bset ∧ bset < n₀) (hAn : ∀ a, A = some a → m ≤ a.block ∧ a.block < n₀) (hn₀ : n₀ ≤ W.heap.size)
    (hc1 : W.cell? ⟨bs, 0, none⟩ = some (.string s)) (hc2 : W.cell? ⟨bset, 0, none⟩ = some (.slice A na ca)) (hA : Rd W 2 A (set.map encR))
    (hY : ∀ pre x W1, J pre W1 → pre ++ [x] <+: runsP s set → YieldAt Fence.wide (n - 1) Tryz.prog l (encP x) W1 fun e W' =>
      (e = .returned (.bool true) ∧ J (pre ++ [x]) W' ∧ Kp m n₀ W1 W') ∨ (e = .returned (.bool false) ∧ Jx (pre ++ [x]) W'))
    (h0 : J [] W) :
    CallsIn Fence.wide n Tryz.prog 35 #[.func (.yield l) #[] #[], .pointer (some ⟨bs, 0, none⟩), .pointer (some ⟨bset, 0, none⟩)] W fun e W' => (∃ v, e = .returned v) ∧
      ((∃ xs, xs = runsP s set ∧ J xs W') ∨ (∃ pre, pre <+: runsP s set ∧ Jx pre W')) := by
  have Hl := Lib.hid hl
  clear hl
  refine callsIn_of_wp Tryz.func35 rfl trivial ?_ rfl
  simp only [Tryz.ntmps35, List.size_toArray, List.length_cons, List.length_nil, Nat.reduceAdd, Nat.reduceSub, Array.replicate_succ, Array.replicate_zero, List.push_toArray, List.append_toArray, List.nil_append, List.cons_append]
  gi_wp2
  gi_loopw [4] (fun v wr => ∃ (cur : Option Nat) (f p : Nat) (pre : List (Nat × Nat)), v = .int .i64 (curV cur) ∧ Hid (RunsAt s set f p cur pre) ∧ J pre wr ∧ wr.heap[W.heap.size]? = some (.stringIter s p) ∧ Mid m n₀ W wr)
    (fun _ wr => s.size - wr.iterPos W.heap.size)
  case atStart => exact ⟨none, s.size, 0, [], rfl, ⟨rfl, by omega, by omega, fun a h => by cases h⟩, abides_below hJ h0 (below_iter (RowKit.Below.refl _ _) (Nat.le_refl _) _ _), iter_new _ _ _, (Mid.refl _ _ _).alloc hn₀ _⟩
  case round =>
    obtain ⟨cur, f, p, pre, rfl, HA, hJs, hit, hb⟩ := hrel
    have hsz : W.heap.size < wr.heap.size := (Array.getElem?_eq_some_iff.1 hit).1
    have Hpos := Lib.hid (iterPos_of hit)
    by_cases hp : p < s.size
    · obtain ⟨⟨R, Wd⟩, hD0⟩ : ∃ d, Utf8.decode s p = d := ⟨_, rfl⟩
      have hd := dec_bd s p hp
      have hnx : ∀ ty, (Instr.next (.pointer (some ⟨W.heap.size, 0, none⟩)) true ty).run Tryz.prog wr = _ := fun ty => Lib.run_next_any_at wr W.heap.size s p ty hit hp
      have hit2 := Lib.iterAt_heap wr W.heap.size s p (p + (Utf8.decode s p).2) hit
      have hb2 := hb.trans (Mid.of_belowB (Lib.below_iterAt (RowKit.Below.refl n₀ wr) (k := W.heap.size) hn₀ s (p + (Utf8.decode s p).2)) (Nat.le_refl _) : Mid m n₀ wr _)
      have hJ2 := abides_iterAt hJ hJs hit (Nat.le_refl _) (p + (Utf8.decode s p).2)
      rw [hD0] at hd hnx hit2 hb2 hJ2
      simp only at hd hnx hit2 hb2 hJ2
      have HD := Lib.hid hD0
      clear hD0
      generalize wr.iterAt W.heap.size s (p + Wd) = wi at hnx hit2 hb2 hJ2
      have c1 : wi.cell? ⟨bs, 0, none⟩ = some (.string s) := hb2.cell hc1 hbs.1 hbs.2
      have c2 : wi.cell? ⟨bset, 0, none⟩ = some (.slice A na ca) := hb2.cell hc2 hbt.1 hbt.2
      have hAi := hA.mid hb2 hAn
      clear hb hJs hit hsz
      cases hin : hasB set R with
      | true =>
        cases cur with
        | none =>
          obtain ⟨g, hg⟩ := runsAt_in HA.out hp HD.out ⟨hd.1, hd.2.2.1⟩ hin
          have Hg := Lib.hid hg
          have Hin := Lib.hid hin
          clear hin hg HA
          simp only [curV] at *
          gi_wp2_with fail
          refine ⟨trivial, ((callsIn_wide (n := n - 1)).2 (rHas_any A na ca set R wi hAi Hl.out hna)).mono ?_⟩
          rintro e w2 ⟨rfl, hb3⟩
          rw [Hin.out]
          have hJ3 := abides_below hJ hJ2 hb3
          have hit3 := (hb3.block W.heap.size (Array.getElem?_eq_some_iff.1 hit2).1).trans hit2
          have hbn : Mid m n₀ W w2 := hb2.trans (Mid.of_below hb3 (Nat.le_trans hn₀ hb2.size))
          clear hb2 hJ2 hit2 c2 hb3
          gi_wp2_with fail
          go_roundw
          case rel => exact ⟨some p, g, p + Wd, pre, rfl, Hg, hJ3, hit3, hbn⟩
          case measure => rw [iterPos_of hit3, Hpos.out]; omega
        | some a =>
          obtain ⟨g, hg⟩ := runsAt_on HA.out hp HD.out ⟨hd.1, hd.2.2.1⟩ hin
          have Hg := Lib.hid hg
          have Hin := Lib.hid hin
          clear hin hg HA
          simp only [curV] at *
          gi_wp2_with fail
          refine ⟨trivial, ((callsIn_wide (n := n - 1)).2 (rHas_any A na ca set R wi hAi Hl.out hna)).mono ?_⟩
          rintro e w2 ⟨rfl, hb3⟩
          rw [Hin.out]
          have hJ3 := abides_below hJ hJ2 hb3
          have hit3 := (hb3.block W.heap.size (Array.getElem?_eq_some_iff.1 hit2).1).trans hit2
          have hbn : Mid m n₀ W w2 := hb2.trans (Mid.of_below hb3 (Nat.le_trans hn₀ hb2.size))
          clear hb2 hJ2 hit2 c2 hb3
          gi_wp2_with fail
          go_roundw
          case rel => exact ⟨some a, g, p + Wd, pre, rfl, Hg, hJ3, hit3, hbn⟩
          case measure => rw [iterPos_of hit3, Hpos.out]; omega
      | false =>
        cases cur with
        | none =>
          obtain ⟨g, hg⟩ := runsAt_out HA.out hp HD.out ⟨hd.1, hd.2.2.1⟩ hin
          have Hg := Lib.hid hg
          have Hin := Lib.hid hin
          clear hin hg HA
          simp only [curV] at *
          gi_wp2_with fail
          refine ⟨trivial, ((callsIn_wide (n := n - 1)).2 (rHas_any A na ca set R wi hAi Hl.out hna)).mono ?_⟩
          rintro e w2 ⟨rfl, hb3⟩
          rw [Hin.out]
          have hJ3 := abides_below hJ hJ2 hb3
          have hit3 := (hb3.block W.heap.size (Array.getElem?_eq_some_iff.1 hit2).1).trans hit2
          have hbn : Mid m n₀ W w2 := hb2.trans (Mid.of_below hb3 (Nat.le_trans hn₀ hb2.size))
          clear hb2 hJ2 hit2 c2 hb3
          gi_wp2_with fail
          go_roundw
          case rel => exact ⟨none, g, p + Wd, pre, rfl, Hg, hJ3, hit3, hbn⟩
          case measure => rw [iterPos_of hit3, Hpos.out]; omega
        | some a =>
          obtain ⟨⟨g, hg⟩, hpre⟩ := runsAt_off HA.out hp HD.out ⟨hd.1, hd.2.2.1⟩ hin
          have Hg := Lib.hid hg
          have Hin := Lib.hid hin
          have Hpre := Lib.hid hpre
          clear hin hg HA hpre
          simp only [curV] at *
          gi_wp2_with fail
          refine ⟨trivial, ((callsIn_wide (n := n - 1)).2 (rHas_any A na ca set R wi hAi Hl.out hna)).mono ?_⟩
          rintro e w2 ⟨rfl, hb3⟩
          rw [Hin.out]
          have hJ3 := abides_below hJ hJ2 hb3
          have hit3 := (hb3.block W.heap.size (Array.getElem?_eq_some_iff.1 hit2).1).trans hit2
          have hbn : Mid m n₀ W w2 := hb2.trans (Mid.of_below hb3 (Nat.le_trans hn₀ hb2.size))
          clear hb2 hJ2 hit2 c2 hb3
          obtain ⟨fn, tmps, assign, body, hy, hR⟩ := hY pre (a, p) w2 hJ3 Hpre.out
          dsimp only [encP] at hy
          gi_wp2_with fail
          refine hR.mono ?_
          rintro e w4 (⟨rfl, hJ4, hk4⟩ | ⟨rfl, hJx4⟩)
          · have hit4 := hk4.2.same _ _ hit3 rfl
            have hbn4 := hbn.trans hk4.1
            gi_wp2_with fail
            go_roundw
            case rel => exact ⟨none, g, p + Wd, pre ++ [(a, p)], rfl, Hg, hJ4, hit4, hbn4⟩
            case measure => rw [iterPos_of hit4, Hpos.out]; omega
          · gi_wp2
            refine bodyPost_ret (results_none rfl _ _ _) rfl ?_
            exact ⟨⟨_, rfl⟩, .inr ⟨_, Hpre.out, hJx4⟩⟩
    · have hnx : ∀ ty, (Instr.next (.pointer (some ⟨W.heap.size, 0, none⟩)) true ty).run Tryz.prog wr = _ := fun ty => Lib.run_next_end_at wr W.heap.size s p ty hit hp
      have c1 : wr.cell? ⟨bs, 0, none⟩ = some (.string s) := hb.cell hc1 hbs.1 hbs.2
      cases cur with
      | none =>
        have HE := Lib.hid (runsAt_end HA.out hp)
        simp only [curV] at *
        gi_wp2
        go_end0
        exact ⟨⟨_, rfl⟩, .inl ⟨_, HE.out, hJs⟩⟩
      | some a =>
        have hE := runsAt_last HA.out hp
        have HE := Lib.hid hE
        clear hE HA
        simp only [curV] at *
        obtain ⟨fn, tmps, assign, body, hy, hR⟩ := hY pre (a, s.size) wr hJs (by rw [HE.out]; exact List.prefix_refl _)
        dsimp only [encP] at hy
        gi_wp2_with fail
        refine hR.mono ?_
        rintro e w4 (⟨rfl, hJ4, hk4⟩ | ⟨rfl, hJx4⟩)
        · gi_wp2
          go_end0
          exact ⟨⟨_, rfl⟩, .inl ⟨_, HE.out, hJ4⟩⟩
        · gi_wp2
          go_end0
          exact ⟨⟨_, rfl⟩, .inr ⟨_, by rw [HE.out]; exact List.prefix_refl _, hJx4⟩⟩

/-- A piece of a text. -/
abbrev Span (s : ByteArray) := { x : Nat × Nat // x.1 < x.2 ∧ x.2 ≤ s.size }
theorem runsGo_bd {h : Int → Bool} {z : Nat} : ∀ (l : List (Nat × Nat × Nat)) (cur : Option Nat) (_ : ∀ x ∈ l, x.2.1 < x.2.2 ∧ x.2.2 ≤ z) (_ : ∀ a, cur = some a → a < z) (_ : ∀ a, cur = some a → ∀ x ∈ l, a < x.2.1) (_ : l.Pairwise fun x y => x.2.1 < y.2.1), ∀ y ∈ runsGo h z cur l, y.1 < y.2 ∧ y.2 ≤ z
  | [], none, _, _, _, _, y, hy => by simp [runsGo] at hy
  | [], some a, _, ha, _, _, y, hy => by
    simp [runsGo] at hy; subst hy; have := ha a rfl; simp only; omega
  | x :: l, none, hb, _, _, hp, y, hy => by
    have hb' : ∀ x ∈ l, x.2.1 < x.2.2 ∧ x.2.2 ≤ z := fun q hq => hb q (by simp [hq])
    have hx := hb x (by simp)
    have hp' := List.pairwise_cons.1 hp
    rw [runsGo] at hy
    split at hy
    · exact runsGo_bd l (some x.2.1) hb' (fun a ha => by cases ha; omega) (fun a ha q hq => by cases ha; exact hp'.1 q hq) hp'.2 y hy
    · exact runsGo_bd l none hb' (fun a ha => by cases ha) (fun a ha => by cases ha) hp'.2 y hy
  | x :: l, some a, hb, ha, hc, hp, y, hy => by
    have hb' : ∀ x ∈ l, x.2.1 < x.2.2 ∧ x.2.2 ≤ z := fun q hq => hb q (by simp [hq])
    have hx := hb x (by simp)
    have hp' := List.pairwise_cons.1 hp
    rw [runsGo] at hy
    split at hy
    · exact runsGo_bd l (some a) hb' ha (fun b hbb q hq => hc b hbb q (by simp [hq])) hp'.2 y hy
    · rcases List.mem_cons.1 hy with rfl | hy
      · have := hc a rfl x (by simp); simp only; omega
      · exact runsGo_bd l none hb' (fun a ha => by cases ha) (fun a ha => by cases ha) hp'.2 y hy
theorem runesGo_pair {s : ByteArray} : ∀ (f a : Nat), (runesGo s f a).Pairwise fun x y => x.2.1 < y.2.1
  | 0, a => by simp [runesGo]
  | f + 1, a => by
    rw [runesGo]
    split
    · rename_i hlt
      have hd := dec_bd s a hlt
      refine List.pairwise_cons.2 ⟨fun x hx => ?_, runesGo_pair f _⟩
      have := runesGo_bd f _ x hx
      simp only; omega
    · simp
theorem runsP_bd (s : ByteArray) (set : List (Int × Int)) : ∀ y ∈ runsP s set, y.1 < y.2 ∧ y.2 ≤ s.size :=
  runsGo_bd _ _ (fun x hx => by have := runesP_bd x hx; exact ⟨this.1, this.2.1⟩) (fun a ha => by cases ha) (fun a ha => by cases ha) (runesGo_pair _ _)
theorem runsGo_len {h : Int → Bool} {z : Nat} : ∀ (l : List (Nat × Nat × Nat)) (cur : Option Nat), (runsGo h z cur l).length ≤ l.length + 1
  | [], none => by simp [runsGo]
  | [], some a => by simp [runsGo]
  | x :: l, none => by
    rw [runsGo]; split
    · have := runsGo_len l (some x.2.1) (h := h) (z := z); simp only [List.length_cons]; omega
    · have := runsGo_len l none (h := h) (z := z); simp only [List.length_cons]; omega
  | x :: l, some a => by
    rw [runsGo]; split
    · have := runsGo_len l (some a) (h := h) (z := z); simp only [List.length_cons]; omega
    · have := runsGo_len l none (h := h) (z := z); simp only [List.length_cons]; omega
theorem runsP_len (s : ByteArray) (set : List (Int × Int)) : (runsP s set).length ≤ s.size + 1 := by
  have h1 := runsGo_len (h := hasB set) (z := s.size) (runesP s) none
  have h2 := runesP_len s
  unfold runsP; omega

/-- What the iterator's boxes hold. -/
def RunsIt (w : World) (s : ByteArray) (set : List (Int × Int)) (m bs bset : Nat) : Prop :=
  ∃ A na ca, w.cell? ⟨bs, 0, none⟩ = some (.string s) ∧ w.cell? ⟨bset, 0, none⟩ = some (.slice A na ca) ∧ Rd w 2 A (set.map encR) ∧ set.length = na ∧ na ≤ 4000000 ∧ m ≤ bs ∧ m ≤ bset ∧ ∀ a, A = some a → m ≤ a.block ∧ a.block < w.heap.size
theorem RunsIt.lt {w : World} {s : ByteArray} {set : List (Int × Int)} {m bs bset : Nat} (h : RunsIt w s set m bs bset) : m ≤ w.heap.size := by
  obtain ⟨A, na, ca, h1, _, _, _, _, h6, _⟩ := h
  have := cell_lt h1; simp at this; omega
theorem RunsIt.more {w : World} {s : ByteArray} {set : List (Int × Int)} {m m' bs bset : Nat} (h : RunsIt w s set m bs bset) (hm : m' ≤ m) : RunsIt w s set m' bs bset := by
  obtain ⟨A, na, ca, h1, h2, h3, h4, h5, h6, h7, h8⟩ := h
  exact ⟨A, na, ca, h1, h2, h3, h4, h5, by omega, by omega, fun a ha => ⟨by have := (h8 a ha).1; omega, (h8 a ha).2⟩⟩
theorem not_row {w : World} {row : Option Nat} {b : Nat} {o : Obj} (hb : w.heap[b]? = some o) (hc : o.isCells = true) (hr : ∀ r, row = some r → ∃ o : Obj, w.heap[r]? = some o ∧ o.isCells = false) : some b ≠ row := by
  rintro rfl
  obtain ⟨o', h1, h2⟩ := hr b rfl
  rw [hb] at h1; cases h1; rw [hc] at h2; cases h2
theorem Blk.kept {w w' : World} {row : Option Nat} {g : Nat} {t : TypeId} {cs : Array Value} (h : Blk w g t cs) (hg : w.grownBy w' row) (hr : ∀ r, row = some r → ∃ o : Obj, w.heap[r]? = some o ∧ o.isCells = false) : Blk w' g t cs := h.grown hg (not_row h rfl hr)
theorem RunsIt.mid {w w' : World} {s : ByteArray} {set : List (Int × Int)} {m bs bset : Nat} (h : RunsIt w s set m bs bset) (hb : Mid m w.heap.size w w') : RunsIt w' s set m bs bset := by
  obtain ⟨A, na, ca, h1, h2, h3, h4, h5, h6, h7, h8⟩ := h
  exact ⟨A, na, ca, hb.cell h1 h6 (cell_lt h1), hb.cell h2 h7 (cell_lt h2), h3.mid hb h8, h4, h5, h6, h7, fun a ha => ⟨(h8 a ha).1, Nat.lt_of_lt_of_le (h8 a ha).2 hb.size⟩⟩
theorem RunsIt.below {w w' : World} {s : ByteArray} {set : List (Int × Int)} {m bs bset : Nat} (h : RunsIt w s set m bs bset) (hb : RowKit.Below w.heap.size w w') : RunsIt w' s set m bs bset := h.mid (Mid.of_below hb (Nat.le_refl _))
theorem runs_stops (n : Nat) (hn : 1 ≤ n) (w : World) (s : ByteArray) (set : List (Int × Int)) (m bs bset : Nat) (hs : s.size ≤ 1000000) (h : RunsIt w s set m bs bset) :
    SeqStopsK Fence.wide n Tryz.prog 35 #[.pointer (some ⟨bs, 0, none⟩), .pointer (some ⟨bset, 0, none⟩)] (fun x : Span s => encP x.1) (Kp m w.heap.size) (fun ys => ys.map (·.1) = runsP s set) (fun pre => pre.map (·.1) <+: runsP s set) (runsP s set).length w := by
  intro l J Jx W hW hJ _ hY h0
  obtain ⟨A, na, ca, h1, h2, h3, h4, h5, h6, h7, h8⟩ := h
  have h := runs1_in n hn l bs bset m w.heap.size A na ca s set (fun pre W => ∃ q : List (Span s), q.map (·.1) = pre ∧ J q W) (fun pre W => ∃ q : List (Span s), q.map (·.1) = pre ∧ Jx q W) W hs h5 h4
    (fun x A B row hx hg hr => by obtain ⟨q, hq, hx⟩ := hx; exact ⟨q, hq, hJ q A B row hx hg hr⟩) ⟨h6, cell_lt h1⟩ ⟨h7, cell_lt h2⟩ h8 hW.size (cell_keep h1 hW) (cell_keep h2 hW) (h3.below hW)
    (fun pre x W1 hx hp => by
      obtain ⟨q, rfl, hx⟩ := hx
      have hm : x ∈ runsP s set := hp.subset (by simp)
      have hlen : q.length < (runsP s set).length := by have := hp.length_le; simp at this; omega
      refine (hY q ⟨x, runsP_bd s set x hm⟩ W1 hx hlen).mono ?_
      rintro e W' (⟨he, hj, hk⟩ | ⟨he, hj⟩)
      · exact .inl ⟨he, ⟨_, by simp, hj⟩, hk⟩
      · exact .inr ⟨he, ⟨_, by simp, hj⟩⟩)
    ⟨[], rfl, h0⟩
  refine h.mono ?_
  rintro e W' ⟨he, ⟨xs, rfl, q, hq, hj⟩ | ⟨pre, hp, q, rfl, hj⟩⟩
  · exact ⟨he, .inl ⟨q, hq, hj⟩⟩
  · exact ⟨he, .inr ⟨q, hp, hj⟩⟩

set_option maxHeartbeats 400000 in
theorem rRuns_any (s : ByteArray) (A : Option Addr) (n c : Nat) (l : List (Int × Int)) (w : World) (hA : Rd w 2 A (l.map encR)) (hl : l.length = n) (hn : n ≤ 4000000) :
    Calls Tryz.prog 24 #[.string s, .slice A n c] w fun e w' => ∃ bs bset, e = .returned (.func (.func 35) #[] #[.pointer (some ⟨bs, 0, none⟩), .pointer (some ⟨bset, 0, none⟩)]) ∧ RunsIt w' s (normR l) w.heap.size bs bset ∧ RowKit.Below w.heap.size w w' := by
  have Hl := Lib.hid hl
  clear hl
  have HNF := Lib.hid (normR_NF l)
  have hmf : ∀ (fn : Fn) (first cap : Array Value) (w : World), (Instr.makeFunc fn first cap).run Tryz.prog w = .ok (.func fn first cap) w := fun _ _ _ _ => rfl
  have hb0 : RowKit.Below w.heap.size w (w.alloc (.cells #[.string s] 9)) := (RowKit.Below.refl _ _).alloc (Nat.le_refl _) _
  have hA0 := hA.alloc (.cells #[.string s] 9)
  go_enter Tryz.func24, Tryz.ntmps24
  go_wp2_with fail
  refine (rNorm_any A n c l _ hA0 Hl.out hn).mono ?_
  rintro e w1 ⟨A1, n1, c1, rfl, ho1, hb1⟩
  go_wp2
  go_ret
  have hb2 := (below_step hb0 hb1 hb0.size).alloc (below_step hb0 hb1 hb0.size).size (.cells #[.slice A1 n1 c1] 22)
  refine ⟨_, _, rfl, ⟨A1, n1, c1, ?_, (Blk.new w1 22 #[.slice A1 n1 c1]).cell 0, (ho1.rd (by omega)).alloc _, by simpa using ho1.len, by have := own_nf_len ho1 HNF.out; omega, Nat.le_refl _, by have := hb1.size; simp at this; omega, fun a ha => by have := ho1.lt a ha; simp at this ⊢; omega⟩, hb2⟩
  exact cell_keep (cell_keep ((Blk.new w 9 #[.string s]).cell 0) hb1) ((RowKit.Below.refl _ _).alloc (Nat.le_refl _) _)
end Go.Proofs.YteelepiaegpkhaaGreatDoor
