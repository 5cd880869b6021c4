/-
  runes.Of and kerfref02.Of: the runes of a text as a set.
-/
import Derived.Test.YteelepiaegpkhaaDoorRefU
import Derived.Test.YteelepiaegpkhaaDoorRunD
namespace Go.Proofs.YteelepiaegpkhaaDoor
open Go.RowKit

def pts (l : List (Nat × Nat × Nat)) : List (Int × Int) := l.map fun x => ((x.1 : Int), (x.1 : Int))
/-- How far Of has come: what is gathered and what is to come hold the text's runes. -/
def OfAt (s : ByteArray) (f p : Nat) (o : List (Int × Int)) : Prop := (∀ r, hasP (o ++ pts (runesGo s f p)) r ↔ hasP (pts (runesP s)) r) ∧ s.size ≤ p + f ∧ p ≤ s.size
theorem hasP_append (a b : List (Int × Int)) (r : Int) : hasP (a ++ b) r ↔ hasP a r ∨ hasP b r := by
  unfold hasP; rw [memR_append]
  constructor
  · rintro ⟨h0, h1, h | h⟩
    · exact .inl ⟨h0, h1, h⟩
    · exact .inr ⟨h0, h1, h⟩
  · rintro (⟨h0, h1, h⟩ | ⟨h0, h1, h⟩)
    · exact ⟨h0, h1, .inl h⟩
    · exact ⟨h0, h1, .inr h⟩
theorem ofAt_first (s : ByteArray) : OfAt s s.size 0 [] := ⟨fun r => by rw [List.nil_append]; rfl, by omega, by omega⟩
theorem ofAt_add {s : ByteArray} {f p R W : Nat} {o : List (Int × Int)} (h : OfAt s f p o) (hp : p < s.size) (hd : Utf8.decode s p = (R, W)) (hw : 1 ≤ W ∧ p + W ≤ s.size) : ∃ g, OfAt s g (p + W) (o ++ [((R : Int), (R : Int))]) := by
  obtain ⟨g, rfl, hg⟩ := runesGo_step (s := s) (f := f) hp h.2.1
  rw [hd] at hg
  refine ⟨g, fun r => ?_, by have := h.2.1; omega, hw.2⟩
  rw [← h.1 r, hg]
  simp [pts]
theorem ofAt_has {s : ByteArray} {f p R W : Nat} {o : List (Int × Int)} (h : OfAt s f p o) (hp : p < s.size) (hd : Utf8.decode s p = (R, W)) (hw : 1 ≤ W ∧ p + W ≤ s.size) (ho : hasB o R = true) : ∃ g, OfAt s g (p + W) o := by
  obtain ⟨g, rfl, hg⟩ := runesGo_step (s := s) (f := f) hp h.2.1
  rw [hd] at hg
  refine ⟨g, fun r => ?_, by have := h.2.1; omega, hw.2⟩
  rw [← h.1 r, hg, show pts ((R, p, p + W) :: runesGo s g (p + W)) = [((R : Int), (R : Int))] ++ pts (runesGo s g (p + W)) from rfl, ← List.append_assoc, hasP_append, hasP_append (o ++ _), hasP_append o]
  constructor
  · rintro (h | h)
    · exact .inl (.inl h)
    · exact .inr h
  · rintro ((h | h) | h)
    · exact .inl h
    · obtain ⟨_, _, x, hx, h1, h2⟩ := h
      simp at hx; subst hx
      simp only at h1 h2
      have : r = (R : Int) := by omega
      subst this
      exact .inl ((hasB_iff _ _).1 ho)
    · exact .inr h
theorem ofAt_end {s : ByteArray} {f p : Nat} {o : List (Int × Int)} (h : OfAt s f p o) (hp : ¬ p < s.size) : normR o = ofP s := by
  refine normR_congr fun r => ?_
  have := h.1 r
  rw [runesGo_end (by omega)] at this
  simpa [pts] using this

set_option maxRecDepth 100000 in
set_option maxHeartbeats 800000 in
theorem rOf_any (s : ByteArray) (w : World) (hs : s.size ≤ 1000000) :
    Calls Tryd.prog 29 #[.string s] w fun e w' => ∃ A n c, e = .returned (.slice A n c) ∧ Own w' w.heap.size 37 2 A n c ((ofP s).map encR) ∧ Below w.heap.size w w' := by
  obtain ⟨i0, hi0, hz0, hz1, hz2⟩ := info_parts infoR
  go_enter Tryd.func29, Tryd.ntmps29
  go_wp2
  go_loopw [3] (fun v wr => ∃ (p f : Nat) (A1 : Option Addr) (n1 c1 : Nat) (o : List (Int × Int)), v = .slice A1 n1 c1 ∧ wr.heap[w.heap.size]? = some (.stringIter s p) ∧ Own wr (w.heap.size + 1) 37 2 A1 n1 c1 (o.map encR) ∧
      n1 ≤ p ∧ p ≤ s.size ∧ Hid (OfAt s f p o) ∧ Below w.heap.size w wr) (fun _ wr => s.size - wr.iterPos w.heap.size)
  case atStart => exact ⟨0, s.size, none, 0, 0, [], rfl, iter_new _ _ _, Own.nil_ _ _ _ _, by omega, by omega, ofAt_first s, below_iter (Below.refl _ _) (Nat.le_refl _) _ _⟩
  case round =>
    obtain ⟨p, f, A1, n1, c1, o, rfl, hit, ho, hn1, hps, HR, hb⟩ := hrel
    have hsz : w.heap.size < wr.heap.size := (Array.getElem?_eq_some_iff.1 hit).1
    have Hpos := Lib.hid (iterPos_of hit)
    by_cases hp : p < s.size
    · obtain ⟨⟨R, W⟩, HD⟩ : ∃ d, Utf8.decode s p = d := ⟨_, rfl⟩
      have hd := dec_bd s p hp
      have hnx : ∀ ty, (Instr.next (.pointer (some ⟨w.heap.size, 0, none⟩)) true ty).run Tryd.prog wr = _ := fun ty => Lib.run_next_any_at wr w.heap.size s p ty hit hp
      have hit2 := Lib.iterAt_heap wr w.heap.size s p (p + (Utf8.decode s p).2) hit
      have hb2 := Lib.below_iterAt hb (k := w.heap.size) (Nat.le_refl _) s (p + (Utf8.decode s p).2)
      have ho2 := ho.iterAt (k := w.heap.size) (by omega) s (p + (Utf8.decode s p).2)
      have hsz2 : w.heap.size < (wr.iterAt w.heap.size s (p + (Utf8.decode s p).2)).heap.size := by rw [Lib.iterAt_size]; exact hsz
      rw [HD] at hd hnx hit2 hb2 ho2 hsz2
      simp only at hd hnx hit2 hb2 ho2 hsz2
      obtain ⟨g, HA⟩ := ofAt_add HR.out hp HD (by omega)
      have HA := Lib.hid HA
      clear HR HD
      generalize wr.iterAt w.heap.size s (p + W) = w2 at hnx hit2 hb2 ho2 hsz2
      clear ho hb hit hsz
      go_wp2_with (at_builtin; go_must (refine wpList_app rfl (.tmp 11) (.tmp 15) _ rfl (w.heap.size + 1) 37 i0 _ 2 8 Tryd.underlying23 hi0 hz0 hz1 hz2 rfl (by omega) A1 n1 c1 (o.map encR) rfl (ho2.alloc _) _ 1 1 [encR (R, R)] rfl rfl (Rd.newAt (by simp) rfl) (encR_ok [(R, R)]) (by unfold maxLen; omega) (by omega) (by simp; omega) ?_); intro A3 c3 w3 ho3 hg3 hA3; have hit3 := hg3.block w.heap.size (by simp; omega) (fun e => by cases A1 with | none => simp at e | some a => have := (ho2.lt a rfl).1; simp at e; omega); have hb3 := below_app (hb2.alloc (by omega) _) hg3 (by simp; omega) (fun a ha => by have := (ho2.lt a ha).1; omega); clear hg3)
      have hit4 : w3.heap[w.heap.size]? = some (.stringIter s (p + W)) := hit3.trans ((Below.heap_alloc _ _ _ hsz2).trans hit2)
      have Ho3 : Own w3 (w.heap.size + 1) 37 2 A3 (n1 + 1) c3 ((o ++ [((R : Int), (R : Int))]).map encR) := by rw [List.map_append]; exact ho3
      clear hit3 ho3
      go_roundw
      case rel => exact ⟨p + W, g, A3, n1 + 1, c3, o ++ [((R : Int), (R : Int))], rfl, hit4, Ho3, by omega, by omega, HA, hb3⟩
      case measure => rw [iterPos_of hit4, Hpos.out]; omega
    · have hnx : ∀ ty, (Instr.next (.pointer (some ⟨w.heap.size, 0, none⟩)) true ty).run Tryd.prog wr = _ := fun ty => Lib.run_next_end_at wr w.heap.size s p ty hit hp
      have HE := Lib.hid (ofAt_end HR.out hp)
      have Hl := Lib.hid (show o.length = n1 by simpa using ho.len)
      go_wp2_with fail
      refine (rNorm_any A1 n1 c1 o _ (ho.rd (by omega)) Hl.out (by omega)).mono ?_
      rintro e w1 ⟨A2, n2, c2, rfl, ho1, hb1⟩
      go_wp2
      go_ret
      exact ⟨_, _, _, rfl, by rw [← HE.out]; exact ho1.more (by omega), below_step hb hb1 hb.size⟩

set_option maxRecDepth 100000 in
set_option maxHeartbeats 800000 in
theorem sOf_any (s : ByteArray) (w : World) (hs : s.size ≤ 1000000) :
    Calls Tryd.prog 30 #[.string s] w fun e w' => ∃ A n c, e = .returned (.slice A n c) ∧ Own w' w.heap.size 37 2 A n c ((ofP s).map encR) ∧ Below w.heap.size w w' := by
  obtain ⟨i0, hi0, hz0, hz1, hz2⟩ := info_parts infoR
  go_enter Tryd.func30, Tryd.ntmps30
  go_wp2
  go_loopw [3] (fun v wr => ∃ (p f : Nat) (A1 : Option Addr) (n1 c1 : Nat) (o : List (Int × Int)), v = .slice A1 n1 c1 ∧ wr.heap[w.heap.size]? = some (.stringIter s p) ∧ Own wr (w.heap.size + 1) 37 2 A1 n1 c1 (o.map encR) ∧
      n1 ≤ p ∧ p ≤ s.size ∧ Hid (OfAt s f p o) ∧ Below w.heap.size w wr) (fun _ wr => s.size - wr.iterPos w.heap.size)
  case atStart => exact ⟨0, s.size, none, 0, 0, [], rfl, iter_new _ _ _, Own.nil_ _ _ _ _, by omega, by omega, ofAt_first s, below_iter (Below.refl _ _) (Nat.le_refl _) _ _⟩
  case round =>
    obtain ⟨p, f, A1, n1, c1, o, rfl, hit, ho, hn1, hps, HR, hb⟩ := hrel
    have hsz : w.heap.size < wr.heap.size := (Array.getElem?_eq_some_iff.1 hit).1
    have Hpos := Lib.hid (iterPos_of hit)
    by_cases hp : p < s.size
    · obtain ⟨⟨R, W⟩, HD⟩ : ∃ d, Utf8.decode s p = d := ⟨_, rfl⟩
      have hd := dec_bd s p hp
      have hnx : ∀ ty, (Instr.next (.pointer (some ⟨w.heap.size, 0, none⟩)) true ty).run Tryd.prog wr = _ := fun ty => Lib.run_next_any_at wr w.heap.size s p ty hit hp
      have hit2 := Lib.iterAt_heap wr w.heap.size s p (p + (Utf8.decode s p).2) hit
      have hb2 := Lib.below_iterAt hb (k := w.heap.size) (Nat.le_refl _) s (p + (Utf8.decode s p).2)
      have ho2 := ho.iterAt (k := w.heap.size) (by omega) s (p + (Utf8.decode s p).2)
      have hsz2 : w.heap.size < (wr.iterAt w.heap.size s (p + (Utf8.decode s p).2)).heap.size := by rw [Lib.iterAt_size]; exact hsz
      rw [HD] at hd hnx hit2 hb2 ho2 hsz2
      simp only at hd hnx hit2 hb2 ho2 hsz2
      have Hl := Lib.hid (show o.length = n1 by simpa using ho2.len)
      have HA1 := Lib.hid (ofAt_add HR.out hp HD (by omega))
      have HA2 := Lib.hid (fun h => ofAt_has HR.out hp HD (by omega) h)
      clear HR HD
      generalize wr.iterAt w.heap.size s (p + W) = w2 at hnx hit2 hb2 ho2 hsz2
      clear ho hb hit hsz
      cases hB : hasB o R with
      | false =>
        obtain ⟨g, HA⟩ := HA1.out
        have HA := Lib.hid HA
        have hB := Lib.hid hB
        clear HA1 HA2
        go_wp2_with (first | (go_at_call 23; go_must (refine (sHas_any A1 n1 c1 o R _ (ho2.rd (by omega)) Hl.out (by omega)).mono ?_); rintro e w4 ⟨rfl, rfl⟩; rw [hB.out]) | (at_builtin; go_must (refine wpList_app rfl (.tmp 15) (.tmp 19) _ rfl (w.heap.size + 1) 37 i0 _ 2 8 Tryd.underlying23 hi0 hz0 hz1 hz2 rfl (by omega) A1 n1 c1 (o.map encR) rfl (ho2.alloc _) _ 1 1 [encR (R, R)] rfl rfl (Rd.newAt (by simp) rfl) (encR_ok [(R, R)]) (by unfold maxLen; omega) (by omega) (by simp; omega) ?_); intro A3 c3 w3 ho3 hg3 hA3; have hit3 := hg3.block w.heap.size (by simp; omega) (fun e => by cases A1 with | none => simp at e | some a => have := (ho2.lt a rfl).1; simp at e; omega); have hb3 := below_app (hb2.alloc (by omega) _) hg3 (by simp; omega) (fun a ha => by have := (ho2.lt a ha).1; omega); clear hg3))
        have hit5 : w3.heap[w.heap.size]? = some (.stringIter s (p + W)) := hit3.trans ((Below.heap_alloc _ _ _ (by omega)).trans hit2)
        have Ho3 : Own w3 (w.heap.size + 1) 37 2 A3 (n1 + 1) c3 ((o ++ [((R : Int), (R : Int))]).map encR) := by rw [List.map_append]; exact ho3
        clear hit3 ho3
        go_roundw
        case rel => exact ⟨p + W, g, A3, n1 + 1, c3, o ++ [((R : Int), (R : Int))], rfl, hit5, Ho3, by omega, by omega, HA, hb3⟩
        case measure => rw [iterPos_of hit5, Hpos.out]; omega
      | true =>
        obtain ⟨g, HA⟩ := HA2.out hB
        have HA := Lib.hid HA
        have hB := Lib.hid hB
        clear HA1 HA2
        go_wp2_with (go_at_call 23; go_must (refine (sHas_any A1 n1 c1 o R _ (ho2.rd (by omega)) Hl.out (by omega)).mono ?_); rintro e w4 ⟨rfl, rfl⟩; rw [hB.out])
        go_roundw
        case rel => exact ⟨p + W, g, A1, n1, c1, o, rfl, hit2, ho2, by omega, by omega, HA, hb2⟩
        case measure => rw [iterPos_of hit2, Hpos.out]; omega
    · have hnx : ∀ ty, (Instr.next (.pointer (some ⟨w.heap.size, 0, none⟩)) true ty).run Tryd.prog wr = _ := fun ty => Lib.run_next_end_at wr w.heap.size s p ty hit hp
      have HE := Lib.hid (ofAt_end HR.out hp)
      have Hl := Lib.hid (show o.length = n1 by simpa using ho.len)
      go_wp2_with fail
      refine (sNorm_any A1 n1 c1 o _ (ho.rd (by omega)) Hl.out (by omega)).mono ?_
      rintro e w1 ⟨A2, n2, c2, rfl, ho1, hb1⟩
      go_wp2
      go_ret
      exact ⟨_, _, _, rfl, by rw [← HE.out]; exact ho1.more (by omega), below_step hb hb1 hb.size⟩
end Go.Proofs.YteelepiaegpkhaaDoor
