/-
  kerfref02.Runs, Keep.
-/
import Derived.Test.YteelepiaegpkhaaDoorRefY
import Derived.Deep.RegionHeld3
import Derived.Test.YteelepiaegpkhaaDoorBld
namespace Go.Proofs.YteelepiaegpkhaaDoor
open Go.RowKit

def encI2 (l : List (Nat × Nat)) : List (List Value) := l.flatMap fun y => [[.int .i64 y.1], [.int .i64 y.2]]
theorem encI2_append (a b : List (Nat × Nat)) : encI2 (a ++ b) = encI2 a ++ encI2 b := by unfold encI2; exact List.flatMap_append
theorem encI2_len (l : List (Nat × Nat)) : (encI2 l).length = l.length * 2 := by
  induction l with
  | nil => rfl
  | cons x r ih => unfold encI2 at ih ⊢; rw [List.flatMap_cons, List.length_append, ih]; simp; omega
theorem encI2_ok (l : List (Nat × Nat)) : ∀ y ∈ encI2 l, y.length = 1 ∧ ∀ u ∈ y, u.oneCell' = true := by
  intro y hy
  obtain ⟨x, _, hx⟩ := List.mem_flatMap.1 hy
  rcases List.mem_cons.1 hx with rfl | hx
  · exact ⟨rfl, by simp [Value.oneCell']⟩
  · rcases List.mem_cons.1 hx with rfl | hx
    · exact ⟨rfl, by simp [Value.oneCell']⟩
    · cases hx
theorem Rd.twoAt {w : World} {t : TypeId} {b : Nat} {x y : Value} {xs : Array Value} (hb : b = w.heap.size) (hx : xs = #[x, y]) : Rd (w.alloc (.cells xs t)) 1 (some ⟨b, 0, none⟩) [[x], [y]] := by
  subst hb; subst hx
  intro _
  have h : ∀ i, (w.alloc (.cells #[x, y] t)).cell? ⟨w.heap.size, i, none⟩ = #[x, y][i]? := fun i => by
    unfold World.cell?
    rw [show (w.alloc (.cells #[x, y] t)).heap[w.heap.size]? = some (.cells #[x, y] t (0, 0)) from heap_alloc_new w _]
    rfl
  refine ⟨w.heap.size, 0, rfl, fun k j z u hy hu => ?_⟩
  match k, hy with
  | 0, hy =>
    obtain rfl : [x] = z := by simpa using hy
    match j, hu with
    | 0, hu => simp at hu; subst hu; exact h 0
  | 1, hy =>
    obtain rfl : [y] = z := by simpa using hy
    match j, hu with
    | 0, hu => simp at hu; subst hu; exact h 1
/-- The runs as they are gathered: the one under way ends where the text has been read to. -/
def outOf (pre : List (Nat × Nat)) : Option Nat → Nat → List (Nat × Nat)
  | none, _ => pre
  | some a, p => pre ++ [(a, p)]
/-- Whether the rune before place i of the list is in the set. -/
def LastIn (L : List (Nat × Nat × Nat)) (h : Int → Bool) (i : Nat) (cur : Option Nat) : Prop :=
  (cur = none ∧ (i = 0 ∨ ∃ j x, i = j + 1 ∧ L[j]? = some x ∧ h x.1 = false)) ∨ ∃ a j x, cur = some a ∧ i = j + 1 ∧ L[j]? = some x ∧ h x.1 = true
structure RAt (s : ByteArray) (set : List (Int × Int)) (i : Nat) (out : List (Nat × Nat)) (cur : Option Nat) (pre : List (Nat × Nat)) (f p : Nat) : Prop where
  at_ : RunsAt s set f p cur pre
  rest : (runesP s).drop i = runesGo s f p
  last : LastIn (runesP s) (hasB set) i cur
  outEq : out = outOf pre cur p
  small : out.length ≤ i
theorem gcell {w w' : World} {row : Option Nat} (h : w.grownBy w' row) {b i : Nat} {v : Value} (hv : w.cell? ⟨b, i, none⟩ = some v) (hr : some b ≠ row) : w'.cell? ⟨b, i, none⟩ = some v :=
  (World.cell?_of_block (h.block b (cell_lt hv) hr)).trans hv
theorem cell_alloc {w : World} {b i : Nat} {v : Value} (hv : w.cell? ⟨b, i, none⟩ = some v) (o : Obj) : (w.alloc o).cell? ⟨b, i, none⟩ = some v := cell_keep hv ((Below.refl _ _).alloc (Nat.le_refl _) o)
theorem drop_cons_get {α : Type} {L : List α} {i : Nat} {x : α} {r : List α} (h : L.drop i = x :: r) : L[i]? = some x ∧ L.drop (i + 1) = r := by
  constructor
  · have := congrArg (·[0]?) h; simpa using this
  · have := congrArg List.tail h; simpa using this
/-- One rune more, not in the set. -/
theorem rAt_out {s : ByteArray} {set : List (Int × Int)} {i : Nat} {out : List (Nat × Nat)} {cur : Option Nat} {pre : List (Nat × Nat)} {f p R W : Nat} (h : RAt s set i out cur pre f p) (hp : p < s.size)
    (hd : Utf8.decode s p = (R, W)) (hw : 1 ≤ W ∧ p + W ≤ s.size) (hh : hasB set R = false) : ∃ cur' pre' f' p', RAt s set (i + 1) out cur' pre' f' p' := by
  obtain ⟨g, rfl, hg⟩ := runesGo_step (s := s) (f := f) hp h.at_.2.1
  rw [hd] at hg
  have hx := drop_cons_get (h.rest.trans hg)
  have hrun := runsAt_go h.at_ hp hd
  obtain ⟨g', hg1, hg2⟩ := hrun
  obtain rfl : g = g' := by omega
  have hl : LastIn (runesP s) (hasB set) (i + 1) none := .inl ⟨rfl, .inr ⟨i, _, rfl, hx.1, hh⟩⟩
  have hsm := h.small
  cases cur with
  | none =>
    rw [runsGo, if_neg (by simp only; rw [hh]; exact Bool.false_ne_true)] at hg2
    exact ⟨none, pre, g, p + W, ⟨hg2, by have := h.at_.2.1; omega, hw.2, fun a ha => by cases ha⟩, hx.2, hl, h.outEq, by omega⟩
  | some a =>
    rw [runsGo, if_neg (by simp only; rw [hh]; exact Bool.false_ne_true)] at hg2
    exact ⟨none, pre ++ [(a, p)], g, p + W, ⟨by rw [← hg2]; simp, by have := h.at_.2.1; omega, hw.2, fun a ha => by cases ha⟩, hx.2, hl, h.outEq, by omega⟩
/-- One rune more, in the set, none before it. -/
theorem rAt_new {s : ByteArray} {set : List (Int × Int)} {i : Nat} {out : List (Nat × Nat)} {pre : List (Nat × Nat)} {f p R W : Nat} (h : RAt s set i out none pre f p) (hp : p < s.size)
    (hd : Utf8.decode s p = (R, W)) (hw : 1 ≤ W ∧ p + W ≤ s.size) (hh : hasB set R = true) : ∃ f', RAt s set (i + 1) (out ++ [(p, p + W)]) (some p) pre f' (p + W) := by
  obtain ⟨g, rfl, hg⟩ := runesGo_step (s := s) (f := f) hp h.at_.2.1
  rw [hd] at hg
  have hx := drop_cons_get (h.rest.trans hg)
  obtain ⟨g', hg1, hg2⟩ := runsAt_go h.at_ hp hd
  obtain rfl : g = g' := by omega
  rw [runsGo, if_pos hh] at hg2
  have ho := h.outEq
  have hsm := h.small
  exact ⟨g, ⟨hg2, by have := h.at_.2.1; omega, hw.2, fun a ha => by cases ha; omega⟩, hx.2, .inr ⟨p, i, _, rfl, rfl, hx.1, hh⟩, by rw [ho]; rfl, by simp; omega⟩
/-- One rune more, in the set, one before it. -/
theorem rAt_on {s : ByteArray} {set : List (Int × Int)} {i : Nat} {out : List (Nat × Nat)} {pre : List (Nat × Nat)} {a f p R W : Nat} (h : RAt s set i out (some a) pre f p) (hp : p < s.size)
    (hd : Utf8.decode s p = (R, W)) (hw : 1 ≤ W ∧ p + W ≤ s.size) (hh : hasB set R = true) : ∃ f', RAt s set (i + 1) (pre ++ [(a, p + W)]) (some a) pre f' (p + W) := by
  obtain ⟨g, rfl, hg⟩ := runesGo_step (s := s) (f := f) hp h.at_.2.1
  rw [hd] at hg
  have hx := drop_cons_get (h.rest.trans hg)
  obtain ⟨g', hg1, hg2⟩ := runsAt_go h.at_ hp hd
  obtain rfl : g = g' := by omega
  rw [runsGo, if_pos hh] at hg2
  have ho := h.outEq
  have hsm := h.small
  rw [ho] at hsm
  exact ⟨g, ⟨hg2, by have := h.at_.2.1; omega, hw.2, fun b hb => by have := h.at_.2.2.2 b hb; omega⟩, hx.2, .inr ⟨a, i, _, rfl, rfl, hx.1, hh⟩, rfl, by simp [outOf] at hsm ⊢; omega⟩
theorem rAt_end {s : ByteArray} {set : List (Int × Int)} {i : Nat} {out : List (Nat × Nat)} {cur : Option Nat} {pre : List (Nat × Nat)} {f p : Nat} (h : RAt s set i out cur pre f p) (hp : ¬ p < s.size) : out = runsP s set := by
  cases cur with
  | none => rw [h.outEq]; exact runsAt_end h.at_ hp
  | some a => rw [h.outEq, show p = s.size by have := h.at_.2.2.1; omega]; exact runsAt_last h.at_ hp
/-- The list's next rune. -/
theorem rAt_get {s : ByteArray} {set : List (Int × Int)} {i : Nat} {out : List (Nat × Nat)} {cur : Option Nat} {pre : List (Nat × Nat)} {f p : Nat} (h : RAt s set i out cur pre f p) :
    (i < (runesP s).length → p < s.size ∧ (runesP s)[i]? = some ((Utf8.decode s p).1, p, p + (Utf8.decode s p).2)) ∧ (¬ i < (runesP s).length → ¬ p < s.size) := by
  constructor
  · intro hi
    by_cases hp : p < s.size
    · obtain ⟨g, rfl, hg⟩ := runesGo_step (s := s) (f := f) hp h.at_.2.1
      exact ⟨hp, (drop_cons_get (h.rest.trans hg)).1⟩
    · have := h.rest
      rw [runesGo_end (by omega), List.drop_eq_nil_iff] at this
      omega
  · intro hi hp
    obtain ⟨g, rfl, hg⟩ := runesGo_step (s := s) (f := f) hp h.at_.2.1
    have := h.rest
    rw [hg, List.drop_of_length_le (by omega)] at this
    cases this
theorem rAt_first (s : ByteArray) (set : List (Int × Int)) : RAt s set 0 [] none [] s.size 0 :=
  ⟨⟨rfl, by omega, by omega, fun a h => by cases h⟩, rfl, .inl ⟨rfl, .inl rfl⟩, rfl, by simp⟩

set_option maxRecDepth 100000 in
set_option maxHeartbeats 2000000 in
theorem sRuns_any (s : ByteArray) (A : Option Addr) (n c : Nat) (l : List (Int × Int)) (w : World) (hA : Rd w 2 A (l.map encR)) (hl : l.length = n) (hn : n ≤ 4000000) (hs : s.size ≤ 1000000) :
    Calls Tryd.prog 34 #[.string s, .slice A n c] w fun e w' => ∃ A' n' c', e = .returned (.slice A' n' c') ∧ Own w' w.heap.size 3 1 A' n' c' (encI2 (runsP s l)) ∧ Below w.heap.size w w' := by
  obtain ⟨i0, hi0, hz0, hz1, hz2⟩ := info_parts infoInt
  have Hl := Lib.hid hl
  have HLn := Lib.hid (runesP_len s)
  clear hl
  go_enter Tryd.func34, Tryd.ntmps34
  go_wp2_with fail
  refine (sRunes_any s _ hs).mono ?_
  rintro e w1 ⟨A1, n1, c1, rfl, ho1, hb1⟩
  have hn1 : n1 ≤ 1000000 := by have h1 := ho1.len; have h2 := HLn.out; simp at h1; omega
  have HLen := Lib.hid (show (runesP s).length = n1 by simpa using ho1.len)
  have hb1s := hb1.size
  go_wp2
  go_loopw [5, 7] (fun v i wr => ∃ (k : Nat) (A2 : Option Addr) (n2 c2 : Nat) (out : List (Nat × Nat)) (cur : Option Nat) (pre : List (Nat × Nat)) (f p : Nat), k ≤ n1 ∧ i = .int .i64 k ∧ v = .slice A2 n2 c2 ∧
      Own wr w1.heap.size 3 1 A2 n2 c2 (encI2 out) ∧ Hid (RAt s l k out cur pre f p) ∧ Below w1.heap.size w1 wr) (fun _ i _ => n1 - (intOf i).toNat)
  case atStart => exact ⟨0, none, 0, 0, [], none, [], s.size, 0, by omega, rfl, rfl, Own.nil_ _ _ _ _, rAt_first s l, Below.refl _ _⟩
  case round =>
    obtain ⟨k, A2, n2, c2, out, cur, pre, f, p, hk, rfl, rfl, ho2, HA, hb2⟩ := hrel
    have hz := hb2.size
    have hA2 := hA.below (below_step hb1 hb2 hb1s)
    have hoL := ho1.below hb2
    have hn2 : n2 ≤ 2 * k := by have h1 := ho2.len; rw [encI2_len] at h1; have := HA.out.small; omega
    by_cases hlt : k < n1
    · obtain ⟨hp, hx0⟩ := (rAt_get HA.out).1 (by have := HLen.out; omega)
      obtain ⟨⟨R, W⟩, HD⟩ : ∃ d, Utf8.decode s p = d := ⟨_, rfl⟩
      have hd := dec_bd s p hp
      rw [HD] at hd hx0
      simp only at hd hx0
      obtain ⟨g, rfl, _, hgl⟩ := ho1.form (by omega)
      have hgA : some g ≠ A2.map (·.block) := fun e => by cases A2 with | none => simp at e | some a => have := (ho2.lt a rfl).1; simp at e; omega
      have hx : ((runesP s).map encRn)[k]? = some (encRn (R, p, p + W)) := by rw [List.getElem?_map, hx0]; rfl
      have k0 := hoL.cell (k := k) (j := 0) (u := .int .i32 R) hx rfl
      have k1 := hoL.cell (k := k) (j := 1) (u := .int .i64 p) hx rfl
      have k2 := hoL.cell (k := k) (j := 2) (u := .int .i64 (p + W : Nat)) hx rfl
      simp only [Nat.add_zero] at k0
      cases hB : hasB l R with
      | false =>
        obtain ⟨cur', pre', f', p', HA'⟩ := rAt_out HA.out hp HD (by omega) hB
        have HA' := Lib.hid HA'
        have hB := Lib.hid hB
        clear HA HD hx hx0
        go_wp2_with (go_at_call 23; go_must (refine (sHas_any A n c l R _ hA2 Hl.out hn).mono ?_); rintro e w4 ⟨rfl, rfl⟩; rw [hB.out])
        go_roundw
        case rel => exact ⟨k + 1, A2, n2, c2, out, cur', pre', f', p', by omega, by go_num, rfl, ho2, HA', hb2⟩
        case measure => simp [intOf]; omega
      | true =>
        have hi0' : Hid ((IntKind.i64.wrap ((k : Int) - 1)) = (k : Int) - 1) := Lib.hid (IntWalk.i64_in _ (by omega))
        cases hc : cur with
        | none =>
          subst hc
          obtain ⟨f', HA'⟩ := rAt_new HA.out hp HD (by omega) hB
          have HA' := Lib.hid HA'
          have HLast := Lib.hid HA.out.last
          have hB := Lib.hid hB
          clear HA HD hx hx0
          by_cases hk0 : k = 0
          · have hkd : decide (0 < k) = false := by simp; omega
            clear hk0
            go_wp2_with fail
            refine (sHas_any A n c l R _ hA2 Hl.out hn).mono ?_
            rintro e w4 ⟨rfl, rfl⟩
            rw [hB.out]
            go_wp2_with fail
            go_region_held3 (fun W' => W'.cell? ⟨g, k * 3 + 1, none⟩ = some (.int .i64 p) ∧ W'.cell? ⟨g, k * 3 + 2, none⟩ = some (.int .i64 (p + W : Nat)))
              (first | go_keep | exact ⟨hk1, hk2⟩)
              ((refine step_app rfl (.tmp 46) (.tmp 57) _ rfl w1.heap.size 3 i0 _ 1 8 Tryd.underlying53 hi0 hz0 hz1 hz2 rfl (by omega) A2 n2 c2 (encI2 out) rfl (ho2.alloc _).drew _ 2 2 [[.int .i64 p], [.int .i64 (p + W : Nat)]] rfl rfl (Rd.twoAt (w := wr) rfl rfl) (encI2_ok [(p, p + W)]) (by unfold maxLen; omega) (by omega) (by simp; omega) ?_; intro A3 c3 w3 ho3 hg3 hA3; have hg4 : (wr.alloc (.cells #[.int .i64 p, .int .i64 (p + W : Nat)] 3)).grownBy w3 (A2.map (·.block)) := ⟨hg3.os, hg3.tape, hg3.output, hg3.size, hg3.block⟩; have hk1 := gcell hg4 (cell_alloc k1 _) hgA; have hk2 := gcell hg4 (cell_alloc k2 _) hgA))
            have hb3 := below_app (hb2.alloc (by omega) _) hg4 (by simp; omega) (fun a ha => (ho2.lt a ha).1)
            have Ho3 : Own w3 w1.heap.size 3 1 A3 (n2 + 2) c3 (encI2 (out ++ [(p, p + W)])) := by rw [encI2_append]; exact ho3
            clear ho3
            go_wp2
            go_roundw
            case rel => exact ⟨k + 1, A3, n2 + 2, c3, _, _, _, f', _, by omega, by go_num, rfl, Ho3, HA', hb3⟩
            case measure => simp [intOf]; omega
          · obtain ⟨j, ⟨R0, a0, b0⟩, hkj, hx0', hh0⟩ : ∃ j x, k = j + 1 ∧ (runesP s)[j]? = some x ∧ hasB l x.1 = false := by
              rcases HLast.out with ⟨_, h | h⟩ | ⟨a, j, x, h, _⟩
              · exact absurd h hk0
              · exact h
              · cases h
            have kp := hoL.cell (k := j) (j := 0) (u := .int .i32 R0) (by rw [List.getElem?_map, hx0']; rfl) rfl
            simp only [Nat.add_zero] at kp
            have hh0 := Lib.hid hh0
            have hw0 : IntKind.i64.wrap ((k : Int) - 1) = (j : Int) := by rw [show (k : Int) - 1 = (j : Int) by omega]; exact IntWalk.i64_in _ (by omega)
            have hk0' : 0 < k := by omega
            have hjn : j < n1 := by omega
            clear hx0' hk0 hi0' hkj
            go_wp2_with fail
            refine (sHas_any A n c l R _ hA2 Hl.out hn).mono ?_
            rintro e w4 ⟨rfl, rfl⟩
            rw [hB.out]
            go_wp2_with fail
            refine (sHas_any A n c l R0 _ hA2 Hl.out hn).mono ?_
            rintro e w4 ⟨rfl, rfl⟩
            rw [hh0.out]
            go_wp2_with fail
            go_region_held3 (fun W' => W'.cell? ⟨g, k * 3 + 1, none⟩ = some (.int .i64 p) ∧ W'.cell? ⟨g, k * 3 + 2, none⟩ = some (.int .i64 (p + W : Nat)))
              (first | go_keep | exact ⟨hk1, hk2⟩)
              ((refine step_app rfl (.tmp 46) (.tmp 57) _ rfl w1.heap.size 3 i0 _ 1 8 Tryd.underlying53 hi0 hz0 hz1 hz2 rfl (by omega) A2 n2 c2 (encI2 out) rfl (ho2.alloc _).drew _ 2 2 [[.int .i64 p], [.int .i64 (p + W : Nat)]] rfl rfl (Rd.twoAt (w := wr) rfl rfl) (encI2_ok [(p, p + W)]) (by unfold maxLen; omega) (by omega) (by simp; omega) ?_; intro A3 c3 w3 ho3 hg3 hA3; have hg4 : (wr.alloc (.cells #[.int .i64 p, .int .i64 (p + W : Nat)] 3)).grownBy w3 (A2.map (·.block)) := ⟨hg3.os, hg3.tape, hg3.output, hg3.size, hg3.block⟩; have hk1 := gcell hg4 (cell_alloc k1 _) hgA; have hk2 := gcell hg4 (cell_alloc k2 _) hgA))
            have hb3 := below_app (hb2.alloc (by omega) _) hg4 (by simp; omega) (fun a ha => (ho2.lt a ha).1)
            have Ho3 : Own w3 w1.heap.size 3 1 A3 (n2 + 2) c3 (encI2 (out ++ [(p, p + W)])) := by rw [encI2_append]; exact ho3
            clear ho3
            go_wp2
            go_roundw
            case rel => exact ⟨k + 1, A3, n2 + 2, c3, _, _, _, f', _, by omega, by go_num, rfl, Ho3, HA', hb3⟩
            case measure => simp [intOf]; omega
        | some a =>
          subst hc
          obtain ⟨f', HA'⟩ := rAt_on HA.out hp HD (by omega) hB
          have HA' := Lib.hid HA'
          obtain ⟨j, ⟨R0, a0, b0⟩, hkj, hx0', hh0⟩ : ∃ j x, k = j + 1 ∧ (runesP s)[j]? = some x ∧ hasB l x.1 = true := by
            rcases HA.out.last with ⟨h, _⟩ | ⟨a, j, x, h, h1, h2, h3⟩
            · cases h
            · exact ⟨j, x, h1, h2, h3⟩
          have kp := hoL.cell (k := j) (j := 0) (u := .int .i32 R0) (by rw [List.getElem?_map, hx0']; rfl) rfl
          simp only [Nat.add_zero] at kp
          have hh0 := Lib.hid hh0
          have hB := Lib.hid hB
          obtain rfl : out = pre ++ [(a, p)] := HA.out.outEq
          obtain ⟨q, rfl⟩ : ∃ q, n2 = q + 1 := ⟨n2 - 1, by have := ho2.len; rw [encI2_len] at this; simp at this; omega⟩
          have hq : q = pre.length * 2 + 1 := by have := ho2.len; rw [encI2_len] at this; simp at this; omega
          obtain ⟨g2, rfl, hg2B, hg2l⟩ := ho2.form (by omega)
          have hxo : (encI2 (pre ++ [(a, p)]))[q]? = some [.int .i64 p] := by
            rw [encI2_append, List.getElem?_append_right (by rw [encI2_len]; omega), encI2_len, show q - pre.length * 2 = 1 by omega]; rfl
          have ko := ho2.cell (k := q) (j := 0) (u := .int .i64 p) hxo rfl
          have hfz := ho2.frozen (q * 1 + 0)
          have ho4 := ho2.stored (k := q) (j := 0) hxo (by omega) (.int .i64 (p + W : Nat))
          have he : (encI2 (pre ++ [(a, p)])).set q ([Value.int .i64 p].set 0 (.int .i64 (p + W : Nat))) = encI2 (pre ++ [(a, p + W)]) := by
            rw [encI2_append, encI2_append, List.set_append_right _ _ (by rw [encI2_len]; omega), encI2_len, show q - pre.length * 2 = 1 by omega]; rfl
          rw [he] at ho4
          simp only [Nat.mul_one, Nat.add_zero] at ko hfz ho4
          have hb4 := hb2.setCell (p := ⟨g2, q, none⟩) (by simp only; omega) (.int .i64 (p + W : Nat))
          have hw1 : IntKind.i64.wrap (q : Int) = q := IntWalk.i64_in _ (by omega)
          have hw0 : IntKind.i64.wrap ((k : Int) - 1) = (j : Int) := by rw [show (k : Int) - 1 = (j : Int) by omega]; exact IntWalk.i64_in _ (by omega)
          have hk0' : 0 < k := by omega
          have hjn : j < n1 := by omega
          clear HA HD hx hx0 hx0' hxo he hq hi0' hkj
          go_wp2_with fail
          refine (sHas_any A n c l R _ hA2 Hl.out hn).mono ?_
          rintro e w4 ⟨rfl, rfl⟩
          rw [hB.out]
          go_wp2_with fail
          refine (sHas_any A n c l R0 _ hA2 Hl.out hn).mono ?_
          rintro e w4 ⟨rfl, rfl⟩
          rw [hh0.out]
          go_wp2
          go_roundw
          case rel => exact ⟨k + 1, _, q + 1, c2, _, _, _, f', _, by omega, by go_num, rfl, ho4, HA', hb4⟩
          case measure => simp [intOf]; omega
    · have HE := Lib.hid (rAt_end HA.out ((rAt_get HA.out).2 (by have := HLen.out; omega)))
      go_wp2
      go_ret
      exact ⟨_, _, _, rfl, by rw [← HE.out]; exact ho2.more (by omega), below_step hb1 hb2 hb1s⟩

theorem own_convert {w : World} {B : Nat} {v : Value} {l : List UInt8} (h : w.ownsRow B 5 1 v l.length (Lib.byteCells l)) : (convert 82 9 v).run Tryd.prog w = .ok (.string ⟨l.toArray⟩) w := by
  rcases h.2 with ⟨rfl, h0⟩ | ⟨g, cap, cur, rfl, _, hg, _, _, _, ht⟩
  · have : l = [] := List.length_eq_zero_iff.1 h0
    subst this
    exact Lib.run_convert_nil_bytes w 82 9 5 0 Tryd.underlying82 Tryd.underlying5 Tryd.underlying9
  · exact run_convert_bytes_back w 82 9 5 ⟨g, 0, none⟩ cap l Tryd.underlying82 Tryd.underlying5 Tryd.underlying9 (Lib.bytes_of_row hg (by simpa using ht))
theorem step_appS {P : Program} {ops : Array Oper} {o : Oper} {a : Act} {w : World} {K : Act → World → Prop} {Q : Exit → Act → World → Prop} {E : Prop} (hgd : o.guard = none) (sl x : Operand) (t u : TypeId)
    (ho : o.op = .call { callee := .builtin .append, args := #[sl, x], argTypes := #[t, u] })
    (base : Nat) (e : TypeId) (i : TypeInfo) (ht : P.underlying t = some (.slice e)) (hu : P.underlying u = some .string) (hi : P.info? e = some i) (hz : i.zero = some (.int .u8 0))
    (hsize : i.size = 1) (hby : i.bytes = 1)
    (v : Value) (n : Nat) (xs : List Value) (hs : a.eval sl = v) (hown : w.ownsRow base e 1 v n xs) (s : ByteArray) (hx : a.eval x = .string s)
    (h63 : n + s.size ≤ maxLen) (hbytes : n + s.size ≤ 140737488355328) (hbase : base ≤ w.heap.size)
    (h : ∀ v' w', w'.ownsRow base e 1 v' (n + s.size) (xs ++ Lib.strCells s) → w.grownBy w' v.ownBlock → K (a.put o.dst v') w') :
    if Region.wanted o (yielded ops a.tmps) = true then Oper.wp P o a w K Q else E := by
  have hw : Region.wanted o (yielded ops a.tmps) = true := by simp [Region.wanted, hgd]
  rw [if_pos hw]
  obtain ⟨v', w', hr, h2, h3, _⟩ := Lib.run_append_own_string (P := P) w base t u o.type e i ht hu hi hz hsize hby v n xs hown s h63 hbytes hbase
  unfold Oper.wp execOp
  simp only [ho, resolve, invoke, builtin, Sem.run_bind, Sem.run_pure, Result.andThen_ok, List.map_toArray, List.map_cons, List.map_nil, hs, hx, hr]
  exact h v' w' h2 h3
theorem row_ge {w : World} {B : Nat} {e : TypeId} {v : Value} {n : Nat} {xs : List Value} (h : w.ownsRow B e 1 v n xs) : ∀ r, v.ownBlock = some r → B ≤ r := by
  intro r hr
  rcases h.2 with ⟨rfl, _⟩ | ⟨g, cap, cur, rfl, hB, _⟩
  · cases hr
  · simp [Value.ownBlock] at hr; omega
theorem below_row {B : Nat} {a w w' : World} {row : Option Nat} (hb : Below B a w) (hg : w.grownBy w' row) (hr : ∀ r, row = some r → B ≤ r) (hB : B ≤ w.heap.size) : Below B a w' :=
  ⟨hg.os.trans hb.os, hg.tape.trans hb.tape, hg.output.trans hb.output, Nat.le_trans hb.size hg.size, fun i hi => (hg.block i (by omega) (fun e => by have := hr i e.symm; omega)).trans (hb.block i hi)⟩
def keepGo (s : ByteArray) (h : Int → Bool) (L : List (Nat × Nat × Nat)) : List UInt8 := (L.filter fun x => h x.1).flatMap fun x => (s.extract x.2.1 x.2.2).data.toList
theorem keepGo_snoc {s : ByteArray} {h : Int → Bool} {L : List (Nat × Nat × Nat)} {k : Nat} {x : Nat × Nat × Nat} (hx : L[k]? = some x) :
    keepGo s h (L.take (k + 1)) = if h x.1 then keepGo s h (L.take k) ++ (s.extract x.2.1 x.2.2).data.toList else keepGo s h (L.take k) := by
  unfold keepGo
  rw [List.take_add_one, hx, Option.toList_some, List.filter_append, List.flatMap_append]
  cases hh : h x.1 <;> simp [hh]
theorem keepGo_len {s : ByteArray} {h : Int → Bool} : ∀ (L : List (Nat × Nat × Nat)), (∀ x ∈ L, x.2.2 ≤ x.2.1 + 4) → (keepGo s h L).length ≤ 4 * L.length
  | [], _ => by simp [keepGo]
  | x :: r, hb => by
    have ih := keepGo_len r (s := s) (h := h) (fun y hy => hb y (by simp [hy]))
    have h4 := hb x (by simp)
    unfold keepGo at ih ⊢
    rw [List.filter_cons]
    split
    · rw [List.flatMap_cons, List.length_append]
      have : (s.extract x.2.1 x.2.2).data.toList.length ≤ 4 := by
        have e : (s.extract x.2.1 x.2.2).data.toList.length = (s.extract x.2.1 x.2.2).size := by rw [Array.length_toList]; rfl
        rw [e, ByteArray.size_extract]; omega
      simp only [List.length_cons]; omega
    · simp only [List.length_cons]; omega

set_option maxRecDepth 100000 in
set_option maxHeartbeats 2000000 in
theorem sKeep_any (s : ByteArray) (A : Option Addr) (n c : Nat) (l : List (Int × Int)) (w : World) (hA : Rd w 2 A (l.map encR)) (hl : l.length = n) (hn : n ≤ 4000000) (hs : s.size ≤ 1000000) :
    Calls Tryd.prog 32 #[.string s, .slice A n c] w fun e w' => e = .returned (.string ⟨(keepP s l).toArray⟩) ∧ Below w.heap.size w w' := by
  obtain ⟨i0, hi0, hz0, hz1, hz2⟩ := info_parts infoU8
  have Hl := Lib.hid hl
  have HLn := Lib.hid (runesP_len s)
  clear hl
  go_enter Tryd.func32, Tryd.ntmps32
  go_wp2_with fail
  refine (sRunes_any s _ hs).mono ?_
  rintro e w1 ⟨A1, n1, c1, rfl, ho1, hb1⟩
  have hn1 : n1 ≤ 1000000 := by have h1 := ho1.len; have h2 := HLn.out; simp at h1; omega
  have HLen := Lib.hid (show (runesP s).length = n1 by simpa using ho1.len)
  have hb1s := hb1.size
  go_wp2
  go_loopw [5, 7] (fun v i wr => ∃ (k : Nat) (L : List UInt8), k ≤ n1 ∧ i = .int .i64 k ∧ wr.ownsRow w1.heap.size 5 1 v L.length (Lib.byteCells L) ∧ Hid (L = keepGo s (hasB l) ((runesP s).take k)) ∧ Below w1.heap.size w1 wr) (fun _ i _ => n1 - (intOf i).toNat)
  case atStart => exact ⟨0, [], by omega, rfl, World.ownsRow_nil _ _ _ _, Lib.hid rfl, Below.refl _ _⟩
  case round =>
    obtain ⟨k, L, hk, rfl, ho2, HK, hb2⟩ := hrel
    have hz := hb2.size
    have hA2 := hA.below (below_step hb1 hb2 hb1s)
    have hoL := ho1.below hb2
    have hL4 : L.length ≤ 4 * k := by
      rw [HK.out]
      have := keepGo_len (s := s) (h := hasB l) ((runesP s).take k) (fun x hx => (runesP_bd x (List.mem_of_mem_take hx)).2.2.1)
      rw [List.length_take] at this; omega
    by_cases hlt : k < n1
    · obtain ⟨⟨R, a, b⟩, HX⟩ : ∃ x, Hid ((runesP s)[k]? = some x) := ⟨_, Lib.hid (List.getElem?_eq_getElem (by have := HLen.out; omega))⟩
      have hbd := runesP_bd _ (List.mem_of_getElem? HX.out)
      simp only at hbd
      obtain ⟨g, rfl, _, hgl⟩ := ho1.form (by omega)
      have hx : ((runesP s).map encRn)[k]? = some (encRn (R, a, b)) := by rw [List.getElem?_map, HX.out]; rfl
      have k0 := hoL.cell (k := k) (j := 0) (u := .int .i32 R) hx rfl
      have k1 := hoL.cell (k := k) (j := 1) (u := .int .i64 a) hx rfl
      have k2 := hoL.cell (k := k) (j := 2) (u := .int .i64 b) hx rfl
      simp only [Nat.add_zero] at k0
      have HS := keepGo_snoc (s := s) (h := hasB l) HX.out
      cases hB : hasB l R with
      | false =>
        replace HS := Lib.hid (HS.trans (by rw [if_neg (by simp only; rw [hB]; exact Bool.false_ne_true)]))
        have hB := Lib.hid hB
        clear hx
        go_wp2_with (go_at_call 23; go_must (refine (sHas_any A n c l R _ hA2 Hl.out hn).mono ?_); rintro e w4 ⟨rfl, rfl⟩; rw [hB.out])
        go_roundw
        case rel => exact ⟨k + 1, L, by omega, by go_num, ho2, Lib.hid (HK.out.trans HS.out.symm), hb2⟩
        case measure => simp [intOf]; omega
      | true =>
        replace HS := Lib.hid (HS.trans (by rw [if_pos hB]))
        have hB := Lib.hid hB
        have hsz : (s.extract a b).size = b - a := by rw [ByteArray.size_extract]; omega
        have ha0 : (0 : Int) ≤ (a : Int) := by omega
        have hab : (a : Int) ≤ (b : Int) := by omega
        have hbz : (b : Int) ≤ (s.size : Int) := by omega
        have hgA : some g ≠ _ := fun e => by have := row_ge ho2 g e.symm; omega
        clear hx
        go_wp2_with fail
        refine (sHas_any A n c l R _ hA2 Hl.out hn).mono ?_
        rintro e w4 ⟨rfl, rfl⟩
        rw [hB.out]
        go_wp2_with fail
        go_region_held3 (fun W' => W'.cell? ⟨g, k * 3 + 1, none⟩ = some (.int .i64 a) ∧ W'.cell? ⟨g, k * 3 + 2, none⟩ = some (.int .i64 b))
          (first | go_keep | exact ⟨hk1, hk2⟩)
          ((refine step_appS rfl (.tmp 23) (.tmp 35) _ _ rfl w1.heap.size 5 i0 Tryd.underlying82 Tryd.underlying9 hi0 hz0 hz1 hz2 _ L.length (Lib.byteCells L) rfl ho2 (s.extract a b) rfl (by unfold maxLen; omega) (by omega) (by simp; omega) ?_; intro v3 w3 ho3 hg3; have hg4 : wr.grownBy w3 _ := ⟨hg3.os, hg3.tape, hg3.output, hg3.size, hg3.block⟩; have hk1 := gcell hg4 k1 hgA; have hk2 := gcell hg4 k2 hgA))
        have ho4 : w3.ownsRow w1.heap.size 5 1 v3 (L ++ (s.extract a b).data.toList).length (Lib.byteCells (L ++ (s.extract a b).data.toList)) := by
          rw [Lib.byteCells_append, List.length_append, show (s.extract a b).data.toList.length = (s.extract a b).size by rw [Array.length_toList]; rfl]; exact ho3
        have hb4 := below_row hb2 hg4 (row_ge ho2) hz
        go_wp2
        go_roundw
        case rel => exact ⟨k + 1, _, by omega, by go_num, ho4, Lib.hid (by rw [HS.out, HK.out]), hb4⟩
        case measure => simp [intOf]; omega
    · have HE : Hid (L = keepP s l) := Lib.hid (by
        have h := HK.out
        rw [List.take_of_length_le (by have := HLen.out; omega)] at h
        exact h)
      have hcv := own_convert ho2
      go_wp2
      go_ret
      exact ⟨by rw [← HE.out]; rfl, below_step hb1 hb2 hb1s⟩
end Go.Proofs.YteelepiaegpkhaaDoor
