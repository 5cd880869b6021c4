/-
  kerfref02.Runes, First.
-/
import Derived.Test.YteelepiaegpkhaaDoorTxt
import Derived.Test.YteelepiaegpkhaaDoorRefD
import Derived.Lib.OthersKept
import Derived.Deep.DeepMust
namespace Go.Proofs.YteelepiaegpkhaaDoor
open Go.RowKit

def encRn (x : Nat × Nat × Nat) : List Value := [.int .i32 x.1, .int .i64 x.2.1, .int .i64 x.2.2]
theorem encRn_ok (l : List (Nat × Nat × Nat)) : ∀ y ∈ l.map encRn, y.length = 3 ∧ ∀ u ∈ y, u.oneCell' = true := by
  intro y hy; obtain ⟨r, _, rfl⟩ := List.mem_map.1 hy
  exact ⟨rfl, by simp [encRn, Value.oneCell']⟩
theorem infoRR : (Tryd.prog.info? 60).map (fun i => (i.zero, i.size, i.bytes)) = some (some (.agg #[.int .i32 0, .int .i64 0, .int .i64 0]), 3, 24) := by kernel_rfl
theorem Own.iterAt {w : World} {base : Nat} {e : TypeId} {s : Nat} {A : Option Addr} {n c : Nat} {cs : List (List Value)} (h : Own w base e s A n c cs) {k : Nat} (hk : k < base) (t : ByteArray) (p : Nat) : Own (w.iterAt k t p) base e s A n c cs :=
  h.keep fun a ha => Lib.iterAt_other w k a.block t p (by have := (h.lt a ha).1; omega)
theorem iter_new (w : World) (s : ByteArray) (p : Nat) : (w.iter s p).heap[w.heap.size]? = some (.stringIter s p) := World.iter_heap w s p
theorem below_iter {B : Nat} {a w : World} (h : Below B a w) (hB : B ≤ w.heap.size) (s : ByteArray) (p : Nat) : Below B a (w.iter s p) := h.alloc hB _
theorem iterPos_of {w : World} {k p : Nat} {s : ByteArray} (h : w.heap[k]? = some (.stringIter s p)) : w.iterPos k = p := by unfold World.iterPos; rw [h]

/-- How far Runes has come. -/
def RunesAt (s : ByteArray) (p f : Nat) (o : List (Nat × Nat × Nat)) : Prop :=
  (o = [] ∧ p = 0 ∧ runesGo s f 0 = runesP s) ∨ ∃ o' r a, o = o' ++ [(r, a, s.size)] ∧ o' ++ (r, a, p) :: runesGo s f p = runesP s
theorem runesAt_first {s : ByteArray} {f : Nat} (h : runesGo s (f + 1) 0 = runesP s) (h0 : 0 < s.size) {R W : Nat} (hd : Utf8.decode s 0 = (R, W)) : RunesAt s (0 + W) f ([] ++ [(R, 0, s.size)]) := by
  refine .inr ⟨[], R, 0, rfl, ?_⟩
  rw [← h, runesGo, if_pos h0, hd]; rfl
theorem runesAt_next {s : ByteArray} {f p r a : Nat} {o' : List (Nat × Nat × Nat)} (h : o' ++ (r, a, p) :: runesGo s (f + 1) p = runesP s) (hp : p < s.size) {R W : Nat} (hd : Utf8.decode s p = (R, W)) :
    RunesAt s (p + W) f (o' ++ [(r, a, p)] ++ [(R, p, s.size)]) := by
  refine .inr ⟨o' ++ [(r, a, p)], R, p, rfl, ?_⟩
  rw [← h, runesGo, if_pos hp, hd]; simp
theorem runesAt_end {s : ByteArray} {f p : Nat} {o : List (Nat × Nat × Nat)} (h : RunesAt s p f o) (hp : p = s.size) : o = runesP s := by
  subst hp
  rcases h with ⟨rfl, h0, h⟩ | ⟨o', r, a, rfl, h⟩
  · rw [← h, runesGo_end (by omega)]
  · rw [← h, runesGo_end (Nat.le_refl _)]

set_option maxRecDepth 100000 in
set_option maxHeartbeats 800000 in
theorem sRunes_any (s : ByteArray) (w : World) (hs : s.size ≤ 1000000) :
    Calls Tryd.prog 43 #[.string s] w fun e w' => ∃ A n c, e = .returned (.slice A n c) ∧ Own w' w.heap.size 60 3 A n c ((runesP s).map encRn) ∧ Below w.heap.size w w' := by
  obtain ⟨i0, hi0, hz0, hz1, hz2⟩ := info_parts infoRR
  go_enter Tryd.func43, Tryd.ntmps43
  go_wp2
  go_loopw [3] (fun v wr => ∃ (p f : Nat) (A1 : Option Addr) (n1 c1 : Nat) (o : List (Nat × Nat × Nat)), v = .slice A1 n1 c1 ∧ wr.heap[w.heap.size]? = some (.stringIter s p) ∧ Own wr (w.heap.size + 1) 60 3 A1 n1 c1 (o.map encRn) ∧
      n1 ≤ p ∧ p ≤ s.size ∧ s.size ≤ p + f ∧ Hid (RunesAt s p f o) ∧ Below w.heap.size w wr) (fun _ wr => s.size - wr.iterPos w.heap.size)
  case atStart => exact ⟨0, s.size, none, 0, 0, [], rfl, iter_new _ _ _, Own.nil_ _ _ _ _, by omega, by omega, by omega, .inl ⟨rfl, rfl, rfl⟩, below_iter (Below.refl _ _) (Nat.le_refl _) _ _⟩
  case round =>
    obtain ⟨p, f, A1, n1, c1, o, rfl, hit, ho, hn1, hps, hf, HR, hb⟩ := hrel
    have hsz : w.heap.size < wr.heap.size := (Array.getElem?_eq_some_iff.1 hit).1
    have Hpos := Lib.hid (iterPos_of hit)
    by_cases hp : p < s.size
    · obtain ⟨⟨R, W⟩, HD⟩ : ∃ d, Utf8.decode s p = d := ⟨_, rfl⟩
      have hd := dec_bd s p hp
      have hnx : ∀ ty, (Instr.next (.pointer (some ⟨w.heap.size, 0, none⟩)) true ty).run Tryd.prog wr = _ := fun ty => Lib.run_next_any_at wr w.heap.size s p ty hit hp
      have hit2 := Lib.iterAt_heap wr w.heap.size s p (p + (Utf8.decode s p).2) hit
      have hb2 := Lib.below_iterAt hb (k := w.heap.size) (Nat.le_refl _) s (p + (Utf8.decode s p).2)
      have ho2 := ho.iterAt (k := w.heap.size) (by omega) s (p + (Utf8.decode s p).2)
      have hsz2 : w.heap.size < (wr.iterAt w.heap.size s (p + (Utf8.decode s p).2)).heap.size := by rw [Lib.iterAt_size]; exact hsz
      rw [HD] at hd hnx hit2 hb2 ho2 hsz2
      simp only at hd hnx hit2 hb2 ho2 hsz2
      have HD := Lib.hid HD
      obtain ⟨f, rfl⟩ : ∃ f', f = f' + 1 := ⟨f - 1, by omega⟩
      generalize wr.iterAt w.heap.size s (p + W) = w2 at hnx hit2 hb2 ho2 hsz2
      clear ho hb hit hsz
      rcases HR.out with ⟨rfl, rfl, hrun⟩ | ⟨o', r, a, rfl, hrun⟩
      · have HA := Lib.hid (runesAt_first hrun hp HD.out)
        obtain rfl : n1 = 0 := by omega
        clear hrun HR
        go_wp2_with (at_builtin; go_must (refine wpList_app rfl (.tmp 22) (.tmp 28) _ rfl (w.heap.size + 1) 60 i0 _ 3 24 Tryd.underlying57 hi0 hz0 hz1 hz2 rfl (by omega) A1 0 c1 ([].map encRn) rfl (ho2.alloc _) _ 1 1 [encRn (R, 0, s.size)] rfl rfl (Rd.newAt (by simp) rfl) (encRn_ok [(R, 0, s.size)]) (by unfold maxLen; omega) (by omega) (by simp; omega) ?_); intro A3 c3 w3 ho3 hg3 hA3; have hit3 := hg3.block w.heap.size (by simp; omega) (fun e => by cases A1 with | none => simp at e | some a => have := (ho2.lt a rfl).1; simp at e; omega); have hb3 := below_app (hb2.alloc (by omega) _) hg3 (by simp; omega) (fun a ha => by have := (ho2.lt a ha).1; omega); clear hg3)
        have hit4 : w3.heap[w.heap.size]? = some (.stringIter s (0 + W)) := hit3.trans ((Below.heap_alloc _ _ _ hsz2).trans hit2)
        have Ho3 : Own w3 (w.heap.size + 1) 60 3 A3 1 c3 (([] ++ [(R, 0, s.size)]).map encRn) := by rw [List.map_append]; exact ho3
        clear hit3 ho3
        go_roundw
        case rel => exact ⟨0 + W, f, A3, 1, c3, [] ++ [(R, 0, s.size)], rfl, hit4, Ho3, by omega, by omega, by omega, HA, hb3⟩
        case measure => rw [iterPos_of hit4, Hpos.out]; omega
      · have HA := Lib.hid (runesAt_next hrun hp HD.out)
        obtain ⟨j, rfl⟩ : ∃ j, n1 = j + 1 := ⟨n1 - 1, by have := ho2.len; simp at this; omega⟩
        obtain ⟨g, rfl, hgB, hgl⟩ := ho2.form (by omega)
        have Hj : Hid (o'.length = j) := Lib.hid (by have := ho2.len; simpa using this)
        have hx : ((o' ++ [(r, a, s.size)]).map encRn)[j]? = some (encRn (r, a, s.size)) := by have := Hj.out; subst this; simp
        have hc := ho2.cell (k := j) (j := 2) (u := .int .i64 s.size) hx rfl
        have hfz := ho2.frozen (j * 3 + 2)
        have ho4 := ho2.stored (k := j) (j := 2) hx (by omega) (.int .i64 p)
        have he : ((o' ++ [(r, a, s.size)]).map encRn).set j ((encRn (r, a, s.size)).set 2 (.int .i64 p)) = (o' ++ [(r, a, p)]).map encRn := by
          rw [List.map_append, List.map_append]
          have := set_mid (o'.map encRn) (encRn (r, a, s.size)) ((encRn (r, a, s.size)).set 2 (.int .i64 p)) []
          rw [List.length_map, Hj.out] at this
          exact this
        rw [he] at ho4
        have hb4 := hb2.setCell (p := ⟨g, j * 3 + 2, none⟩) (by simp only; omega) (.int .i64 p)
        have hit4 : (w2.setCell ⟨g, j * 3 + 2, none⟩ (.int .i64 p)).heap[w.heap.size]? = some (.stringIter s (p + W)) := (Below.heap_setCell w2 ⟨g, j * 3 + 2, none⟩ _ w.heap.size (by simp only; omega)).trans hit2
        have hw1 : IntKind.i64.wrap (j : Int) = j := IntWalk.i64_in _ (by omega)
        clear hrun HR hx he hit2 hb2
        go_wp2_with (at_builtin; go_must (refine wpList_app rfl (.tmp 22) (.tmp 28) _ rfl (w.heap.size + 1) 60 i0 _ 3 24 Tryd.underlying57 hi0 hz0 hz1 hz2 rfl (by omega) (some ⟨g, 0, none⟩) (j + 1) c1 ((o' ++ [(r, a, p)]).map encRn) rfl (ho4.alloc _) _ 1 1 [encRn (R, p, s.size)] rfl rfl (Rd.newAt (by simp) rfl) (encRn_ok [(R, p, s.size)]) (by unfold maxLen; omega) (by omega) (by simp; omega) ?_); intro A3 c3 w3 ho3 hg3 hA3; have hit3 := hg3.block w.heap.size (by simp; omega) (fun e => by simp at e; omega); have hb3 := below_app (hb4.alloc (by simp; omega) _) hg3 (by simp; omega) (fun a ha => by cases ha; simp only; omega); clear hg3)
        have hit5 : w3.heap[w.heap.size]? = some (.stringIter s (p + W)) := hit3.trans ((Below.heap_alloc _ _ _ (by simpa using hsz2)).trans hit4)
        have Ho3 : Own w3 (w.heap.size + 1) 60 3 A3 (j + 1 + 1) c3 ((o' ++ [(r, a, p)] ++ [(R, p, s.size)]).map encRn) := by rw [List.map_append]; exact ho3
        clear hit3 ho3
        go_roundw
        case rel => exact ⟨p + W, f, A3, j + 1 + 1, c3, o' ++ [(r, a, p)] ++ [(R, p, s.size)], rfl, hit5, Ho3, by omega, by omega, by omega, HA, hb3⟩
        case measure => rw [iterPos_of hit5, Hpos.out]; omega
    · have hnx : ∀ ty, (Instr.next (.pointer (some ⟨w.heap.size, 0, none⟩)) true ty).run Tryd.prog wr = _ := fun ty => Lib.run_next_end_at wr w.heap.size s p ty hit hp
      have HE := Lib.hid (runesAt_end HR.out (by omega))
      go_wp2
      go_ret
      exact ⟨_, _, _, rfl, by rw [← HE.out]; exact ho.more (by omega), hb⟩
end Go.Proofs.YteelepiaegpkhaaDoor
