/-
  Several texts in one, in their build order: RefW, We.
-/
import Derived.Deep.DeepMust
import Derived.Test.YtinfnfgflcjfmaaGreatDoorZRefV
import Derived.Test.YtinfnfgflcjfmaaGreatDoorZWc
import Derived.Test.YtinfnfgflcjfmaaGreatDoorZ1a
import Derived.Test.YtinfnfgflcjfmaaGreatDoorZRefU
/-
  kerfref02.spelling whole.
-/
namespace Go.Proofs.YtinfnfgflcjfmaaGreatDoor
open Go.RowKit

/-- Does a rune's number stand there? As the three tests of the code say it. -/
theorem notPrefix_cases {s : ByteArray} {a : Nat} (h : [85, 43].isPrefixOf (rest s a) = false) :
    s.size ≤ a + 1 ∨ (∃ h1 : a + 1 < s.size, (((s[a]'(by omega)).toNat : Int) == 85) = false) ∨ (∃ h1 : a + 1 < s.size, (((s[a]'(by omega)).toNat : Int) == 85) = true ∧ (((s[a + 1]'h1).toNat : Int) == 43) = false) := by
  by_cases h1 : a + 1 < s.size
  · rw [isPrefix_rest h1] at h
    by_cases h0 : s[a]'(by omega) = 85
    · refine .inr (.inr ⟨h1, by rw [h0]; rfl, ?_⟩)
      have : ¬ s[a + 1]'h1 = 43 := fun e => by rw [h0, e] at h; exact absurd h (by decide)
      have := byte_ne' (n := 43) this
      simpa using this
    · refine .inr (.inl ⟨h1, ?_⟩)
      have := byte_ne' (n := 85) h0
      simpa using this
  · exact .inl (by omega)

set_option maxRecDepth 100000 in
set_option maxHeartbeats 1600000 in
theorem sspelling_any (s : ByteArray) (a : Nat) (w : World) (ha : a ≤ s.size) (hs : s.size ≤ 1000000) :
    Calls Tryz.prog 174 #[.string s, .int .i64 a] w fun e w' => e = .returned (spellV (runeP s a)) ∧ Below w.heap.size w w' := by
  cases hp : [85, 43].isPrefixOf (rest s a) with
  | true =>
    have hl : a + 1 < s.size := by
      have := (List.isPrefixOf_iff_prefix.1 hp).length_le
      unfold rest at this; rw [List.length_drop, size_data] at this; simp at this; omega
    rw [isPrefix_rest hl] at hp
    simp only [Bool.and_eq_true, beq_iff_eq] at hp
    exact spell_num s a w hl hp.1.symm hp.2.symm hs
  | false =>
    have HN := Lib.hid (notPrefix_rest hp)
    rcases notPrefix_cases hp with h1 | ⟨h1, hq0⟩ | ⟨h1, hq0, hq1⟩
    all_goals
      clear hp
      go_enter Tryz.func174, Tryz.ntmps174
      go_wp2_with fail
      refine (sQuoted_any s a _ ha hs).mono ?_
      rintro e w1 ⟨rfl, hb1⟩
      obtain ⟨⟨r, wd, ok⟩, HQ⟩ : ∃ d, quotedP s a = d := ⟨_, rfl⟩
      rw [HQ]
      simp only
      cases ok with
      | false =>
        have HF : Hid (runeP s a = .error (21, a)) := Lib.hid (HN.out.trans (quoted_no HQ))
        clear HQ
        go_wp2
        refine bodyPost_ret (results_tmp4 rfl _ _ _) rfl ?_
        exact ⟨spell_err HF.out rfl, hb1⟩
      | true =>
        obtain ⟨hend, hw4, hr, hE⟩ := quoted_yes HQ
        have HE := Lib.hid (HN.out.trans hE)
        clear HQ hE
        by_cases hr9 : r = 65533
        · subst hr9
          by_cases hw1 : wd = 1
          · subst hw1
            have HF : Hid (runeP s a = .error (23, a + 1)) := Lib.hid (HE.out.trans (if_pos ⟨rfl, rfl⟩))
            go_wp2
            refine bodyPost_ret (results_tmp4 rfl _ _ _) rfl ?_
            exact ⟨spell_err HF.out rfl, hb1⟩
          · have HF : Hid (runeP s a = .ok (((65533 : Nat) : Int), a + wd + 2)) := Lib.hid (HE.out.trans (if_neg (fun h => hw1 h.2)))
            have hq : ((wd : Int) == 1) = false := by rw [beq_eq_false_iff_ne]; omega
            clear hw1
            go_wp2
            refine bodyPost_ret (results_tmp4 rfl _ _ _) rfl ?_
            exact ⟨spell_ok HF.out rfl, hb1⟩
        · have HF : Hid (runeP s a = .ok ((r : Int), a + wd + 2)) := Lib.hid (HE.out.trans (if_neg (fun h => hr9 h.1)))
          have hq : ((r : Int) == 65533) = false := by rw [beq_eq_false_iff_ne]; omega
          clear hr9
          go_wp2
          refine bodyPost_ret (results_tmp4 rfl _ _ _) rfl ?_
          exact ⟨spell_ok HF.out rfl, hb1⟩
end Go.Proofs.YtinfnfgflcjfmaaGreatDoor

/-
  props: Names, Set, Ranged, Of, walked.
-/
namespace Go.Proofs.YtinfnfgflcjfmaaGreatDoor
open Go.RowKit Go.Maps
theorem full_small {d : DbP} (h : d.Ok) (ha : Apart d.sets) {k : Nat} {s : List (Int × Int)} (hk : d.full[k]? = some s) : s.length ≤ 1114112 := by
  have h1 := full_lenS h ha
  obtain ⟨hlt, e⟩ := List.getElem?_eq_some_iff.1 hk
  have hd : d.full = d.full.take k ++ s :: d.full.drop (k + 1) := by rw [← e, ← List.drop_eq_getElem_cons hlt, List.take_append_drop]
  rw [hd, lenS_append] at h1
  have : lenS (s :: d.full.drop (k + 1)) = s.length + lenS (d.full.drop (k + 1)) := rfl
  omega
theorem full_len' {d : DbP} (h : d.Ok) : d.full.length = d.names.length := full_len h
/-- The set of a number; none where there is none. -/
def DbP.setI (d : DbP) (k : Int) : List (Int × Int) := if 0 ≤ k then d.full.getD k.toNat [] else []
set_option maxRecDepth 100000 in
theorem wGet_nil (v : Value) (w : World) : Calls Tryz.prog 52 #[.pointer none, v] w fun e w' => e = .returned (.int .i64 0) ∧ w' = w := by
  go_enter Tryz.func52, Tryz.ntmps52
  go_wp2
  go_ret
  exact ⟨rfl, rfl⟩

/-- The classes of a text's runes. -/
def ofC (d : DbP) (s : ByteArray) : List Nat := (runesP s).map fun x => d.get (x.1 : Int)
def encN (x : Nat) : List Value := [.int .i64 (x : Int)]
theorem encN_ok (l : List Nat) : ∀ y ∈ l.map encN, y.length = 1 ∧ ∀ u ∈ y, u.oneCell' = true := by
  intro y hy; obtain ⟨r, _, rfl⟩ := List.mem_map.1 hy
  exact ⟨rfl, by simp [encN, Value.oneCell']⟩
/-- How far Of has come. -/
def OfCAt (d : DbP) (s : ByteArray) (f p : Nat) (o : List Nat) : Prop := (o ++ (runesGo s f p).map fun x => d.get (x.1 : Int)) = ofC d s ∧ s.size ≤ p + f ∧ p ≤ s.size
theorem ofCAt_first (d : DbP) (s : ByteArray) : OfCAt d s s.size 0 [] := ⟨by rw [List.nil_append]; rfl, by omega, by omega⟩
theorem ofCAt_add {d : DbP} {s : ByteArray} {f p R W : Nat} {o : List Nat} (h : OfCAt d s f p o) (hp : p < s.size) (hd : Utf8.decode s p = (R, W)) (hw : 1 ≤ W ∧ p + W ≤ s.size) : ∃ g, OfCAt d s g (p + W) (o ++ [d.get (R : Int)]) := by
  obtain ⟨g, rfl, hg⟩ := runesGo_step (s := s) (f := f) hp h.2.1
  rw [hd] at hg
  refine ⟨g, ?_, by have := h.2.1; omega, hw.2⟩
  rw [← h.1, hg]; simp
theorem ofCAt_end {d : DbP} {s : ByteArray} {f p : Nat} {o : List Nat} (h : OfCAt d s f p o) (hp : ¬ p < s.size) : o = ofC d s := by
  have := h.1
  rw [runesGo_end (by omega)] at this
  simpa using this

set_option maxRecDepth 100000 in
set_option maxHeartbeats 1000000 in
theorem wOf_any (p : Nat) (d : DbP) (s : ByteArray) (w : World) (h : DbAt w p d) (ho : d.Ok) (ha : Apart d.sets) (hs : s.size ≤ 1000000) :
    Calls Tryz.prog 113 #[.pointer (some ⟨p, 0, none⟩), .string s] w fun e w' => ∃ A n c, e = .returned (.slice A n c) ∧ Own w' w.heap.size 3 1 A n c ((ofC d s).map encN) ∧ Below w.heap.size w w' := by
  obtain ⟨i0, hi0, hz0, hz1, hz2⟩ := info_parts infoInt
  have HD := Lib.hid (And.intro h (And.intro ho ha))
  clear h ho ha
  go_enter Tryz.func113, Tryz.ntmps113
  go_wp2
  go_loopw [5] (fun v wr => ∃ (q f : Nat) (A1 : Option Addr) (n1 c1 : Nat) (o : List Nat), v = .slice A1 n1 c1 ∧ wr.heap[w.heap.size]? = some (.stringIter s q) ∧ Own wr (w.heap.size + 1) 3 1 A1 n1 c1 (o.map encN) ∧
      n1 ≤ q ∧ q ≤ s.size ∧ Hid (OfCAt d s f q o) ∧ Below w.heap.size w wr) (fun _ wr => s.size - wr.iterPos w.heap.size)
  case atStart => exact ⟨0, s.size, none, 0, 0, [], rfl, iter_new _ _ _, Own.nil_ _ _ _ _, by omega, by omega, ofCAt_first d s, below_iter (Below.refl _ _) (Nat.le_refl _) _ _⟩
  case round =>
    obtain ⟨q, f, A1, n1, c1, o, rfl, hit, ho, hn1, hps, HR, hb⟩ := hrel
    have hsz : w.heap.size < wr.heap.size := (Array.getElem?_eq_some_iff.1 hit).1
    have Hpos := Lib.hid (iterPos_of hit)
    by_cases hp : q < s.size
    · obtain ⟨⟨R, W⟩, HDc⟩ : ∃ d, Utf8.decode s q = d := ⟨_, rfl⟩
      have hd := dec_bd s q hp
      have hnx : ∀ ty, (Instr.next (.pointer (some ⟨w.heap.size, 0, none⟩)) true ty).run Tryz.prog wr = _ := fun ty => Lib.run_next_any_at wr w.heap.size s q ty hit hp
      have hit2 := Lib.iterAt_heap wr w.heap.size s q (q + (Utf8.decode s q).2) hit
      have hb2 := Lib.below_iterAt hb (k := w.heap.size) (Nat.le_refl _) s (q + (Utf8.decode s q).2)
      have ho2 := ho.iterAt (k := w.heap.size) (by omega) s (q + (Utf8.decode s q).2)
      have hsz2 : w.heap.size < (wr.iterAt w.heap.size s (q + (Utf8.decode s q).2)).heap.size := by rw [Lib.iterAt_size]; exact hsz
      rw [HDc] at hd hnx hit2 hb2 ho2 hsz2
      simp only at hd hnx hit2 hb2 ho2 hsz2
      obtain ⟨g, HA⟩ := ofCAt_add HR.out hp HDc (by omega)
      have HA := Lib.hid HA
      clear HR HDc
      generalize wr.iterAt w.heap.size s (q + W) = w2 at hnx hit2 hb2 ho2 hsz2
      have HG := Lib.hid (wGet_any p d R w2 (HD.out.1.below hb2) HD.out.2.1 HD.out.2.2)
      clear ho hb hit hsz
      go_wp2_with (first | (go_at_call 52; refine HG.out.mono ?_; rintro e w4 ⟨rfl, hb4⟩; have hit4 := (hb4.block _ hsz2).trans hit2; have ho4 := ho2.below hb4; have hbb := below_step hb2 hb4 hb2.size; have hsz4 := Nat.lt_of_lt_of_le hsz2 hb4.size; clear hit2 ho2 hb2) | (at_builtin; go_must (refine wpList_app rfl (.tmp 15) (.tmp 19) _ rfl (w.heap.size + 1) 3 i0 _ 1 8 Tryz.underlying42 hi0 hz0 hz1 hz2 rfl (by omega) A1 n1 c1 (o.map encN) rfl (ho4.alloc _) _ 1 1 [encN (d.get R)] rfl rfl (Rd.newAt (by simp) rfl) (encN_ok [d.get R]) (by unfold maxLen; omega) (by omega) (by simp; omega) ?_); intro A3 c3 w3 ho3 hg3 hA3; have hit3 := hg3.block w.heap.size (by simp; omega) (fun e => by cases A1 with | none => simp at e | some a => have := (ho4.lt a rfl).1; simp at e; omega); have hb3 := below_app (hbb.alloc (by omega) _) hg3 (by simp; omega) (fun a ha => by have := (ho4.lt a ha).1; omega); clear hg3))
      have hit5 : w3.heap[w.heap.size]? = some (.stringIter s (q + W)) := hit3.trans ((Below.heap_alloc _ _ _ hsz4).trans hit4)
      have Ho3 : Own w3 (w.heap.size + 1) 3 1 A3 (n1 + 1) c3 ((o ++ [d.get (R : Int)]).map encN) := by rw [List.map_append]; exact ho3
      clear hit3 ho3
      go_roundw
      case rel => exact ⟨q + W, g, A3, n1 + 1, c3, o ++ [d.get (R : Int)], rfl, hit5, Ho3, by omega, by omega, HA, hb3⟩
      case measure => rw [iterPos_of hit5, Hpos.out]; omega
    · have hnx : ∀ ty, (Instr.next (.pointer (some ⟨w.heap.size, 0, none⟩)) true ty).run Tryz.prog wr = _ := fun ty => Lib.run_next_end_at wr w.heap.size s q ty hit hp
      have HE := Lib.hid (ofCAt_end HR.out hp)
      go_wp2
      go_ret
      exact ⟨A1, n1, c1, rfl, by rw [← HE.out]; exact ho.more (by omega), hb⟩
set_option maxRecDepth 100000 in
theorem wOf_nil (v : Value) (w : World) : Calls Tryz.prog 113 #[.pointer none, v] w fun e w' => e = .returned (.slice none 0 0) ∧ w' = w := by
  go_enter Tryz.func113, Tryz.ntmps113
  go_wp2
  go_ret
  exact ⟨rfl, rfl⟩
end Go.Proofs.YtinfnfgflcjfmaaGreatDoor

