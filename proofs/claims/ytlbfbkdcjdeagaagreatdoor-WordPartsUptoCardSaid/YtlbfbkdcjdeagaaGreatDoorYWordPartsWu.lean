/-
  kerflaw12.WordParts, walked. Printed by gen_wparts.py.
-/
import Derived.Test.YtlbfbkdcjdeagaaGreatDoorYWordParts5a
namespace Go.Proofs.YtlbfbkdcjdeagaaGreatDoor
open Go.RowKit

theorem gW10 : gW 10 = 2 := by kernel_rfl
theorem gW13 (r : Nat) (hr : r ≤ 1114111) (h : gW r = 1) : r = 13 := by
  have h1 := has_get wordOk.1 wordOk.2.1 (i := 1) (s := [(13, 13)]) (by kernel_rfl) (r := (r : Int)) (by omega) (by omega)
  rw [show wordD.get (r : Int) = 1 from h] at h1
  have h2 : hasB [(13, 13)] (r : Int) = true := h1
  simp [hasB] at h2
  omega
/-- The bounds of two texts with a line end between. -/
def partsL (s t : ByteArray) : List Nat := (if wBounds gW s = [] then [0] else wBounds gW s) ++ (if wBounds gW t = [] then [s.size + 1] else (wBounds gW t).map (· + (s.size + 1)))
theorem parts_word {s t u : ByteArray} (hu : u.data.toList = s.data.toList ++ 10 :: t.data.toList) (hs : s.data.toList.getLast? ≠ some 13) : wBounds gW u = partsL s t := wBounds_parts gW10 gW13 hu hs
theorem map_take_snoc {l : List Nat} {i x z : Nat} (h : l[i]? = some x) : (l.map (· + z)).take (i + 1) = (l.map (· + z)).take i ++ [x + z] := by
  rw [List.take_add_one, List.getElem?_map, h]; rfl
theorem own_keep_app {W V : World} {B : Nat} {e : TypeId} {A A2 : Option Addr} {n c : Nat} {cs : List (List Value)} {o : Obj} (h : Own W B e 1 A n c cs) (hg : (W.alloc o).grownBy V (A2.map (·.block))) (hne : ∀ a a2, A = some a → A2 = some a2 → a2.block ≠ a.block) : Own V B e 1 A n c cs :=
  h.keep fun a ha => (hg.block a.block (by have := (h.lt a ha).2; simp; omega) (fun e => by
    cases A2 with
    | none => cases e
    | some a2 => simp at e; exact hne a a2 ha rfl e.symm)).trans (Below.heap_alloc _ _ _ (h.lt a ha).2)
theorem wBounds_none {s : ByteArray} (h : s.size = 0) : wBounds gW s = [] := by
  have hr : runesP s = [] := by unfold runesP; rw [h]; rfl
  unfold wBounds
  rw [hr, if_pos h]; rfl
theorem wBounds_some {s : ByteArray} (h : s.size ≠ 0) : wBounds gW s ≠ [] := by
  unfold wBounds
  rw [if_neg h]
  simp
set_option maxRecDepth 100000 in
set_option maxHeartbeats 8000000 in
theorem pWordParts_any (s t : ByteArray) (w : World) (hE : Env w) (hs : s.size ≤ 140737488355328) (ht : t.size ≤ 140737488355328) :
    Calls Tryz.prog 4 #[.string s, .string t] w fun e w' => e = .returned (.bool true) ∧ Below w.heap.size w w' := by
  have HLv := Lib.hid (fun W (h : Env W) => klive_any W h)
  by_cases h1 : 70 < s.size + t.size
  · have g1 : (70 : Int) < (s.size : Int) + (t.size : Int) := by omega
    clear h1
    go_enter Tryz.func4, Tryz.ntmps4
    go_wp2_with fail
    refine (HLv.out _ hE).mono ?_
    rintro e w1 ⟨rfl, hb⟩
    go_wp2
    go_ret
    exact ⟨rfl, hb⟩
  have g1 : ¬ (70 : Int) < (s.size : Int) + (t.size : Int) := by omega
  obtain ⟨i0, hi0, hz0, hz1, hz2⟩ := info_parts infoInt
  have hsz : s.size ≤ 70 := by omega
  have htz : t.size ≤ 70 := by omega
  clear h1 hs ht
  by_cases hs0 : s.size = 0
  · have hgl : Hid (s.data.toList.getLast? ≠ some 13) := Lib.hid (by
      have : s.data.toList = [] := List.eq_nil_of_length_eq_zero (by rw [Array.length_toList]; exact hs0)
      rw [this]; simp)
    have g2 : ¬ (0 : Int) < (s.size : Int) := by omega
    have hnil := wBounds_none hs0
    clear hs0
    have HB1 := Lib.hid (fun W (h : Env W) => kBounds_any s W h (by omega))
    have HB2 := Lib.hid (fun W (h : Env W) => kBounds_any t W h (by omega))
    have HB3 := Lib.hid (fun (u : ByteArray) W (h : Env W) (hz : u.size ≤ 200) => kBounds_any u W h (by omega))
    have hl1 := wBounds_len gW s
    have hl2 := wBounds_len gW t
    have HBl := Lib.hid (wBounds_le gW t)
    obtain ⟨L, HL⟩ : ∃ l, Hid (wBounds gW s = l) := ⟨_, Lib.hid rfl⟩
    obtain ⟨M, HM⟩ : ∃ l, Hid (wBounds gW t = l) := ⟨_, Lib.hid rfl⟩
    have HP : Hid (∀ u : ByteArray, u.data.toList = s.data.toList ++ 10 :: t.data.toList → wBounds gW u = (if L = [] then [0] else L) ++ (if M = [] then [s.size + 1] else M.map (· + (s.size + 1)))) := Lib.hid (fun u hu => by rw [parts_word hu hgl.out]; unfold partsL; rw [HL.out, HM.out])
    rw [HL.out] at HB1 hl1 hnil
    rw [HM.out] at HB2 hl2 HBl
    clear hgl
    go_enter Tryz.func4, Tryz.ntmps4
    go_wp2_with fail
    refine (HB1.out _ hE).mono ?_
    rintro e w1 ⟨A1, n1, c1, rfl, o1, hb1⟩
    have hn1 : L.length = n1 := by have := o1.len; simpa using this
    have Hn1 := Lib.hid hn1
    have hn1z : n1 ≤ 71 := by omega
    have rd1 := o1.rd (by decide)
    clear hn1
    subst hnil
    obtain rfl : n1 = 0 := by have := Hn1.out; simpa using this.symm
    go_wp2_with (at_builtin; first
      | (refine wpList_app rfl (.tmp 31) (.tmp 32) _ rfl w.heap.size 3 i0 _ 1 8 Tryz.underlying25 hi0 hz0 hz1 hz2 rfl (by omega) none 0 0 [] rfl (Own.nil_ _ _ _ _) A1 0 c1 ([].map encN) rfl rfl rd1 (encN_ok []) (by unfold maxLen; omega) (by omega) (by have := hb1.size; omega) ?_; intro A5 c5 w5 o5 hg5 hA5; have hb5 := below_app hb1 hg5 (by have := hb1.size; omega) (fun a ha => by cases ha))
      | (refine wpList_app rfl (.tmp 37) (.tmp 38) _ rfl w.heap.size 3 i0 _ 1 8 Tryz.underlying25 hi0 hz0 hz1 hz2 rfl (by omega) A5 0 c5 [] rfl (o5.alloc _) _ 1 1 [encN 0] rfl rfl (Rd.newAt (by simp) rfl) (encN_ok [0]) (by unfold maxLen; omega) (by omega) (by have := hb5.size; simp; omega) ?_; intro A6 c6 w6 o6 hg6 hA6))
    have hb6 := below_app (hb5.alloc hb5.size _) hg6 (by have := hb5.size; simp; omega) (fun a ha => (o5.lt a ha).1)
    have o6 : Own w6 w.heap.size 3 1 A6 1 c6 ([0].map encN) := o6
    clear o5 hb5
    have hE6 := hE.below hb6
    go_wp2_with fail
    refine (HB2.out _ hE6).mono ?_
    rintro e w7 ⟨A7, n7, c7, rfl, o7, hb7⟩
    have hn7 : M.length = n7 := by have := o7.len; simpa using this
    have Hn7 := Lib.hid hn7
    have hn7z : n7 ≤ 71 := by omega
    have rd7 := o7.rd (by decide)
    have hbw := below_step hb6 hb7 hb6.size
    have ow := o6.below hb7
    clear hn7
    by_cases hm0 : n7 = 0
    · have hM0 : M = [] := List.eq_nil_of_length_eq_zero (by rw [Hn7.out]; exact hm0)
      subst hm0
      subst hM0
      have HP2 : Hid (∀ u : ByteArray, u.data.toList = s.data.toList ++ 10 :: t.data.toList → wBounds gW u = ([0] : List Nat) ++ [s.size + 1]) := Lib.hid (fun u hu => by rw [HP.out u hu]; rfl)
      clear HP
      go_wp2_with (at_builtin; go_must (refine wpList_app rfl (.tmp 45) (.tmp 49) _ rfl w.heap.size 3 i0 _ 1 8 Tryz.underlying25 hi0 hz0 hz1 hz2 rfl (by omega) A6 1 c6 (([0] : List Nat).map encN) rfl (ow.alloc _) _ 1 1 [encN (s.size + 1)] rfl rfl (Rd.newAt (by simp) rfl) (encN_ok [s.size + 1]) (by unfold maxLen; omega) (by omega) (by have := hbw.size; simp; omega) ?_); intro A8 c8 w8 o8 hg8 hA8)
      have hb8 := below_app (hbw.alloc hbw.size _) hg8 (by have := hbw.size; simp; omega) (fun a ha => (ow.lt a ha).1)
      have o8 : Own w8 w.heap.size 3 1 A8 2 c8 ((([0] : List Nat) ++ [s.size + 1]).map encN) := by rw [List.map_append]; exact o8
      go_wp2_with fail
      go_loopw [5, 8] (fun u v wr => u = .slice A8 2 c8 ∧ v = .int .i64 0 ∧ wr = w8) (fun _ _ _ => 0)
      case atStart => exact ⟨rfl, rfl, rfl⟩
      case round =>
        obtain ⟨rfl, rfl, rfl⟩ := hrel
        have hE8 := hE.below hb8
        have hu8 : (([0] : List Nat) ++ [s.size + 1]).length = 2 := (by have h := o8.len; rw [List.length_map] at h; exact h)
        have hxu : ¬ 9223372036854775807 < s.size + 1 := by omega
        have Hu := Lib.hid (HP2.out (s ++ ⟨#[10]⟩ ++ t) (by rw [ByteArray.data_append, ByteArray.data_append, Array.toList_append, Array.toList_append]; simp))
        have huz : (s ++ ⟨#[10]⟩ ++ t : ByteArray).size ≤ 200 := by rw [ByteArray.size_append, ByteArray.size_append]; show s.size + 1 + t.size ≤ 200; omega
        have HB9 := Lib.hid (HB3.out (s ++ ⟨#[10]⟩ ++ t) wr hE8 huz)
        rw [Hu.out] at HB9
        go_wp2_with fail
        refine HB9.out.mono ?_
        rintro e wa ⟨Aa, na, ca, rfl, oa, hba⟩
        have hna : (([0] : List Nat) ++ [s.size + 1]).length = na := by have h := oa.len; rw [List.length_map] at h; exact h
        have hnn : 2 = na := by omega
        subst hnn
        have HI := Lib.hid (kints_same Aa A8 2 ca c8 (([0] : List Nat) ++ [s.size + 1]) wa (oa.rd (by decide)) ((o8.below hba).rd (by decide)) hna (by omega))
        go_wp2_with fail
        refine HI.out.mono ?_
        rintro e wb ⟨rfl, hbb⟩
        have hbab := below_two hba hbb
        go_wp2_with fail
        refine (HLv.out _ (hE8.below hbab)).mono ?_
        rintro e wc ⟨rfl, hbc⟩
        go_wp2
        go_ret
        exact ⟨rfl, below_step hb8 (below_two hbab hbc) hb8.size⟩
    · have q7 : ((n7 : Int) == 0) = false := by rw [beq_eq_false_iff_ne]; omega
      have HP2 : Hid (∀ u : ByteArray, u.data.toList = s.data.toList ++ 10 :: t.data.toList → wBounds gW u = ([0] : List Nat) ++ M.map (· + (s.size + 1))) := Lib.hid (fun u hu => by rw [HP.out u hu]; show ([0] : List Nat) ++ _ = _; rw [if_neg (fun h => hm0 (by rw [← Hn7.out, h]; rfl))])
      clear HP
      go_wp2_with fail
      go_loopw [5, 8] (fun u v wr => ∃ (j : Nat) (A8 : Option Addr) (n8 c8 : Nat), v = .int .i64 j ∧ j ≤ n7 ∧ u = .slice A8 n8 c8 ∧ Hid (n8 = 1 + j) ∧ Own wr w.heap.size 3 1 A8 n8 c8 ((([0] : List Nat) ++ (M.map (· + (s.size + 1))).take j).map encN) ∧ Own wr w6.heap.size 3 1 A7 n7 c7 (M.map encN) ∧ (∀ a a2, A7 = some a → A8 = some a2 → a2.block ≠ a.block) ∧ Below w.heap.size w wr) (fun _ v _ => n7 - (intOf v).toNat)
      case atStart => exact ⟨0, _, _, _, rfl, by omega, rfl, Lib.hid rfl, by rw [List.take_zero, List.append_nil]; exact ow, o7, (fun a a2 ha ha2 => by have h1 := (o7.lt a ha).1; have h2 := (o6.lt a2 ha2).2; omega), hbw⟩
      case round =>
        obtain ⟨j, A8, n8, c8, rfl, hj, rfl, Hn8, o8, o7r, hne, hb8⟩ := hrel
        by_cases hlt : j < n7
        · obtain ⟨x, Hx⟩ : ∃ x, Hid (M[j]? = some x) := ⟨_, Lib.hid (List.getElem?_eq_getElem (by have := Hn7.out; omega))⟩
          have hxz : x ≤ 70 := Nat.le_trans (HBl.out x (List.mem_of_getElem? Hx.out)) htz
          have Hne := Lib.hid hne
          obtain ⟨b, off, hA7, cx⟩ := Rd.atQ (o7r.rd (by decide)) Hx.out
          subst hA7
          obtain ⟨z, hz⟩ : ∃ z, x + (s.size + 1) = z := ⟨_, rfl⟩
          have e5 : (x : Int) + (s.size : Int) + 1 = (z : Int) := by omega
          have e6 : ¬ 9223372036854775807 < x + s.size := by omega
          have hzz : z ≤ 200 := by omega
          have htk := map_take_snoc (z := s.size + 1) Hx.out
          rw [hz] at htk
          have Htk := Lib.hid htk
          clear htk hz
          have hn8z : n8 ≤ 200 := by have := Hn8.out; omega
          go_wp2_with (at_builtin; go_must (refine wpList_app rfl (.tmp 57) (.tmp 66) _ rfl w.heap.size 3 i0 _ 1 8 Tryz.underlying25 hi0 hz0 hz1 hz2 rfl (by omega) A8 n8 c8 ((([0] : List Nat) ++ (M.map (· + (s.size + 1))).take j).map encN) rfl (o8.alloc _) _ 1 1 [encN z] rfl rfl (Rd.newAt (by simp) rfl) (encN_ok [z]) (by unfold maxLen; omega) (by omega) (by have := hb8.size; simp; omega) ?_); intro A9 c9 w9 o9 hg9 hA9)
          have hb9 := below_app (hb8.alloc hb8.size _) hg9 (by have := hb8.size; simp; omega) (fun a ha => (o8.lt a ha).1)
          have o79 := own_keep_app o7r hg9 Hne.out
          have hne9 : ∀ a a2, (some ⟨b, off, none⟩ : Option Addr) = some a → A9 = some a2 → a2.block ≠ a.block := fun a a2 ha ha2 => by
            rcases hA9 with e | e
            · exact Hne.out a a2 ha (by rw [← e]; exact ha2)
            · rw [e] at ha2; injection ha2 with ha2; subst ha2
              have := (o7r.lt a ha).2
              simp; omega
          go_roundw
          case rel => exact ⟨j + 1, A9, n8 + 1, c9, by go_num, by omega, rfl, Lib.hid (by have := Hn8.out; omega), by rw [Htk.out, ← List.append_assoc, List.map_append]; exact o9, o79, hne9, hb9⟩
          case measure => simp [intOf]; omega
        · obtain rfl : j = n7 := by omega
          rw [List.take_of_length_le (by rw [List.length_map, Hn7.out]; exact Nat.le_refl _)] at o8
          have hn8z : n8 ≤ 200 := by have := Hn8.out; omega
          have hE8 := hE.below hb8
          have hu8 : (([0] : List Nat) ++ M.map (· + (s.size + 1))).length = n8 := (by have h := o8.len; rw [List.length_map] at h; exact h)
          have hxu : ¬ 9223372036854775807 < s.size + 1 := by omega
          have Hu := Lib.hid (HP2.out (s ++ ⟨#[10]⟩ ++ t) (by rw [ByteArray.data_append, ByteArray.data_append, Array.toList_append, Array.toList_append]; simp))
          have huz : (s ++ ⟨#[10]⟩ ++ t : ByteArray).size ≤ 200 := by rw [ByteArray.size_append, ByteArray.size_append]; show s.size + 1 + t.size ≤ 200; omega
          have HB9 := Lib.hid (HB3.out (s ++ ⟨#[10]⟩ ++ t) wr hE8 huz)
          rw [Hu.out] at HB9
          go_wp2_with fail
          refine HB9.out.mono ?_
          rintro e wa ⟨Aa, na, ca, rfl, oa, hba⟩
          have hna : (([0] : List Nat) ++ M.map (· + (s.size + 1))).length = na := by have h := oa.len; rw [List.length_map] at h; exact h
          have hnn : n8 = na := by omega
          subst hnn
          have HI := Lib.hid (kints_same Aa A8 n8 ca c8 (([0] : List Nat) ++ M.map (· + (s.size + 1))) wa (oa.rd (by decide)) ((o8.below hba).rd (by decide)) hna (by omega))
          go_wp2_with fail
          refine HI.out.mono ?_
          rintro e wb ⟨rfl, hbb⟩
          have hbab := below_two hba hbb
          go_wp2_with fail
          refine (HLv.out _ (hE8.below hbab)).mono ?_
          rintro e wc ⟨rfl, hbc⟩
          go_wp2
          go_ret
          exact ⟨rfl, below_step hb8 (below_two hbab hbc) hb8.size⟩
  · obtain ⟨k, hk⟩ : ∃ k, s.size = k + 1 := ⟨s.size - 1, by omega⟩
    have e1 : (s.size : Int) - 1 = (k : Int) := by omega
    have hkl : k < s.size := by omega
    have g2 : (0 : Int) < (s.size : Int) := by omega
    have hnil := wBounds_some hs0
    have Hgl : Hid (s.data.toList.getLast? = some (s[k]'hkl)) := Lib.hid (by
      rw [List.getLast?_eq_getElem?, Array.length_toList, show s.data.size = s.size from rfl, hk, Nat.add_sub_cancel]
      have h2 : k < s.data.toList.length := by rw [Array.length_toList]; exact hkl
      rw [List.getElem?_eq_getElem h2]; rfl)
    by_cases h13 : s[k]'hkl = 13
    · have q13 : (((s[k]'hkl).toNat : Int) == 13) = true := by rw [h13]; rfl
      clear hk
      go_enter Tryz.func4, Tryz.ntmps4
      go_wp2_with fail
      refine (HLv.out _ hE).mono ?_
      rintro e w1 ⟨rfl, hb⟩
      go_wp2
      go_ret
      exact ⟨rfl, hb⟩
    · have q13 : (((s[k]'hkl).toNat : Int) == 13) = false := by
        rw [beq_eq_false_iff_ne]
        intro h
        apply h13
        apply UInt8.toNat_inj.1
        show (s[k]'hkl).toNat = 13
        omega
      have hgl : Hid (s.data.toList.getLast? ≠ some 13) := Lib.hid (by rw [Hgl.out]; intro h; injection h with h; exact h13 h)
      clear Hgl h13 hk
      have HB1 := Lib.hid (fun W (h : Env W) => kBounds_any s W h (by omega))
      have HB2 := Lib.hid (fun W (h : Env W) => kBounds_any t W h (by omega))
      have HB3 := Lib.hid (fun (u : ByteArray) W (h : Env W) (hz : u.size ≤ 200) => kBounds_any u W h (by omega))
      have hl1 := wBounds_len gW s
      have hl2 := wBounds_len gW t
      have HBl := Lib.hid (wBounds_le gW t)
      obtain ⟨L, HL⟩ : ∃ l, Hid (wBounds gW s = l) := ⟨_, Lib.hid rfl⟩
      obtain ⟨M, HM⟩ : ∃ l, Hid (wBounds gW t = l) := ⟨_, Lib.hid rfl⟩
      have HP : Hid (∀ u : ByteArray, u.data.toList = s.data.toList ++ 10 :: t.data.toList → wBounds gW u = (if L = [] then [0] else L) ++ (if M = [] then [s.size + 1] else M.map (· + (s.size + 1)))) := Lib.hid (fun u hu => by rw [parts_word hu hgl.out]; unfold partsL; rw [HL.out, HM.out])
      rw [HL.out] at HB1 hl1 hnil
      rw [HM.out] at HB2 hl2 HBl
      clear hgl
      go_enter Tryz.func4, Tryz.ntmps4
      go_wp2_with fail
      refine (HB1.out _ hE).mono ?_
      rintro e w1 ⟨A1, n1, c1, rfl, o1, hb1⟩
      have hn1 : L.length = n1 := by have := o1.len; simpa using this
      have Hn1 := Lib.hid hn1
      have hn1z : n1 ≤ 71 := by omega
      have rd1 := o1.rd (by decide)
      clear hn1
      have hn0 : n1 ≠ 0 := fun h => hnil (List.eq_nil_of_length_eq_zero (by rw [Hn1.out]; exact h))
      have q0 : ((n1 : Int) == 0) = false := by rw [beq_eq_false_iff_ne]; omega
      have HL6 : Hid ((if L = [] then [0] else L) = L) := Lib.hid (if_neg (fun h => hn0 (by rw [← Hn1.out, h]; rfl)))
      go_wp2_with (at_builtin; go_must (refine wpList_app rfl (.tmp 31) (.tmp 32) _ rfl w.heap.size 3 i0 _ 1 8 Tryz.underlying25 hi0 hz0 hz1 hz2 rfl (by omega) none 0 0 [] rfl (Own.nil_ _ _ _ _) A1 n1 c1 (L.map encN) rfl (by simp; exact Hn1.out) rd1 (encN_ok L) (by unfold maxLen; omega) (by omega) (by have := hb1.size; omega) ?_); intro A5 c5 w5 o5 hg5 hA5)
      have hb5 := below_app hb1 hg5 (by have := hb1.size; omega) (fun a ha => by cases ha)
      rw [List.nil_append, Nat.zero_add] at o5
      clear hA5 hg5
      have hE6 := hE.below hb5
      go_wp2_with fail
      refine (HB2.out _ hE6).mono ?_
      rintro e w7 ⟨A7, n7, c7, rfl, o7, hb7⟩
      have hn7 : M.length = n7 := by have := o7.len; simpa using this
      have Hn7 := Lib.hid hn7
      have hn7z : n7 ≤ 71 := by omega
      have rd7 := o7.rd (by decide)
      have hbw := below_step hb5 hb7 hb5.size
      have ow := o5.below hb7
      clear hn7
      by_cases hm0 : n7 = 0
      · have hM0 : M = [] := List.eq_nil_of_length_eq_zero (by rw [Hn7.out]; exact hm0)
        subst hm0
        subst hM0
        have HP2 : Hid (∀ u : ByteArray, u.data.toList = s.data.toList ++ 10 :: t.data.toList → wBounds gW u = L ++ [s.size + 1]) := Lib.hid (fun u hu => by rw [HP.out u hu, HL6.out]; rfl)
        clear HP
        go_wp2_with (at_builtin; go_must (refine wpList_app rfl (.tmp 45) (.tmp 49) _ rfl w.heap.size 3 i0 _ 1 8 Tryz.underlying25 hi0 hz0 hz1 hz2 rfl (by omega) A5 n1 c5 (L.map encN) rfl (ow.alloc _) _ 1 1 [encN (s.size + 1)] rfl rfl (Rd.newAt (by simp) rfl) (encN_ok [s.size + 1]) (by unfold maxLen; omega) (by omega) (by have := hbw.size; simp; omega) ?_); intro A8 c8 w8 o8 hg8 hA8)
        have hb8 := below_app (hbw.alloc hbw.size _) hg8 (by have := hbw.size; simp; omega) (fun a ha => (ow.lt a ha).1)
        have o8 : Own w8 w.heap.size 3 1 A8 (n1 + 1) c8 ((L ++ [s.size + 1]).map encN) := by rw [List.map_append]; exact o8
        go_wp2_with fail
        go_loopw [5, 8] (fun u v wr => u = .slice A8 (n1 + 1) c8 ∧ v = .int .i64 0 ∧ wr = w8) (fun _ _ _ => 0)
        case atStart => exact ⟨rfl, rfl, rfl⟩
        case round =>
          obtain ⟨rfl, rfl, rfl⟩ := hrel
          have hE8 := hE.below hb8
          have hu8 : (L ++ [s.size + 1]).length = (n1 + 1) := (by have h := o8.len; rw [List.length_map] at h; exact h)
          have hxu : ¬ 9223372036854775807 < s.size + 1 := by omega
          have Hu := Lib.hid (HP2.out (s ++ ⟨#[10]⟩ ++ t) (by rw [ByteArray.data_append, ByteArray.data_append, Array.toList_append, Array.toList_append]; simp))
          have huz : (s ++ ⟨#[10]⟩ ++ t : ByteArray).size ≤ 200 := by rw [ByteArray.size_append, ByteArray.size_append]; show s.size + 1 + t.size ≤ 200; omega
          have HB9 := Lib.hid (HB3.out (s ++ ⟨#[10]⟩ ++ t) wr hE8 huz)
          rw [Hu.out] at HB9
          go_wp2_with fail
          refine HB9.out.mono ?_
          rintro e wa ⟨Aa, na, ca, rfl, oa, hba⟩
          have hna : (L ++ [s.size + 1]).length = na := by have h := oa.len; rw [List.length_map] at h; exact h
          have hnn : (n1 + 1) = na := by omega
          subst hnn
          have HI := Lib.hid (kints_same Aa A8 (n1 + 1) ca c8 (L ++ [s.size + 1]) wa (oa.rd (by decide)) ((o8.below hba).rd (by decide)) hna (by omega))
          go_wp2_with fail
          refine HI.out.mono ?_
          rintro e wb ⟨rfl, hbb⟩
          have hbab := below_two hba hbb
          go_wp2_with fail
          refine (HLv.out _ (hE8.below hbab)).mono ?_
          rintro e wc ⟨rfl, hbc⟩
          go_wp2
          go_ret
          exact ⟨rfl, below_step hb8 (below_two hbab hbc) hb8.size⟩
      · have q7 : ((n7 : Int) == 0) = false := by rw [beq_eq_false_iff_ne]; omega
        have HP2 : Hid (∀ u : ByteArray, u.data.toList = s.data.toList ++ 10 :: t.data.toList → wBounds gW u = L ++ M.map (· + (s.size + 1))) := Lib.hid (fun u hu => by rw [HP.out u hu, HL6.out]; rw [if_neg (fun h => hm0 (by rw [← Hn7.out, h]; rfl))])
        clear HP
        go_wp2_with fail
        go_loopw [5, 8] (fun u v wr => ∃ (j : Nat) (A8 : Option Addr) (n8 c8 : Nat), v = .int .i64 j ∧ j ≤ n7 ∧ u = .slice A8 n8 c8 ∧ Hid (n8 = n1 + j) ∧ Own wr w.heap.size 3 1 A8 n8 c8 ((L ++ (M.map (· + (s.size + 1))).take j).map encN) ∧ Own wr w5.heap.size 3 1 A7 n7 c7 (M.map encN) ∧ (∀ a a2, A7 = some a → A8 = some a2 → a2.block ≠ a.block) ∧ Below w.heap.size w wr) (fun _ v _ => n7 - (intOf v).toNat)
        case atStart => exact ⟨0, _, _, _, rfl, by omega, rfl, Lib.hid rfl, by rw [List.take_zero, List.append_nil]; exact ow, o7, (fun a a2 ha ha2 => by have h1 := (o7.lt a ha).1; have h2 := (o5.lt a2 ha2).2; omega), hbw⟩
        case round =>
          obtain ⟨j, A8, n8, c8, rfl, hj, rfl, Hn8, o8, o7r, hne, hb8⟩ := hrel
          by_cases hlt : j < n7
          · obtain ⟨x, Hx⟩ : ∃ x, Hid (M[j]? = some x) := ⟨_, Lib.hid (List.getElem?_eq_getElem (by have := Hn7.out; omega))⟩
            have hxz : x ≤ 70 := Nat.le_trans (HBl.out x (List.mem_of_getElem? Hx.out)) htz
            have Hne := Lib.hid hne
            obtain ⟨b, off, hA7, cx⟩ := Rd.atQ (o7r.rd (by decide)) Hx.out
            subst hA7
            obtain ⟨z, hz⟩ : ∃ z, x + (s.size + 1) = z := ⟨_, rfl⟩
            have e5 : (x : Int) + (s.size : Int) + 1 = (z : Int) := by omega
            have e6 : ¬ 9223372036854775807 < x + s.size := by omega
            have hzz : z ≤ 200 := by omega
            have htk := map_take_snoc (z := s.size + 1) Hx.out
            rw [hz] at htk
            have Htk := Lib.hid htk
            clear htk hz
            have hn8z : n8 ≤ 200 := by have := Hn8.out; omega
            go_wp2_with (at_builtin; go_must (refine wpList_app rfl (.tmp 57) (.tmp 66) _ rfl w.heap.size 3 i0 _ 1 8 Tryz.underlying25 hi0 hz0 hz1 hz2 rfl (by omega) A8 n8 c8 ((L ++ (M.map (· + (s.size + 1))).take j).map encN) rfl (o8.alloc _) _ 1 1 [encN z] rfl rfl (Rd.newAt (by simp) rfl) (encN_ok [z]) (by unfold maxLen; omega) (by omega) (by have := hb8.size; simp; omega) ?_); intro A9 c9 w9 o9 hg9 hA9)
            have hb9 := below_app (hb8.alloc hb8.size _) hg9 (by have := hb8.size; simp; omega) (fun a ha => (o8.lt a ha).1)
            have o79 := own_keep_app o7r hg9 Hne.out
            have hne9 : ∀ a a2, (some ⟨b, off, none⟩ : Option Addr) = some a → A9 = some a2 → a2.block ≠ a.block := fun a a2 ha ha2 => by
              rcases hA9 with e | e
              · exact Hne.out a a2 ha (by rw [← e]; exact ha2)
              · rw [e] at ha2; injection ha2 with ha2; subst ha2
                have := (o7r.lt a ha).2
                simp; omega
            go_roundw
            case rel => exact ⟨j + 1, A9, n8 + 1, c9, by go_num, by omega, rfl, Lib.hid (by have := Hn8.out; omega), by rw [Htk.out, ← List.append_assoc, List.map_append]; exact o9, o79, hne9, hb9⟩
            case measure => simp [intOf]; omega
          · obtain rfl : j = n7 := by omega
            rw [List.take_of_length_le (by rw [List.length_map, Hn7.out]; exact Nat.le_refl _)] at o8
            have hn8z : n8 ≤ 200 := by have := Hn8.out; omega
            have hE8 := hE.below hb8
            have hu8 : (L ++ M.map (· + (s.size + 1))).length = n8 := (by have h := o8.len; rw [List.length_map] at h; exact h)
            have hxu : ¬ 9223372036854775807 < s.size + 1 := by omega
            have Hu := Lib.hid (HP2.out (s ++ ⟨#[10]⟩ ++ t) (by rw [ByteArray.data_append, ByteArray.data_append, Array.toList_append, Array.toList_append]; simp))
            have huz : (s ++ ⟨#[10]⟩ ++ t : ByteArray).size ≤ 200 := by rw [ByteArray.size_append, ByteArray.size_append]; show s.size + 1 + t.size ≤ 200; omega
            have HB9 := Lib.hid (HB3.out (s ++ ⟨#[10]⟩ ++ t) wr hE8 huz)
            rw [Hu.out] at HB9
            go_wp2_with fail
            refine HB9.out.mono ?_
            rintro e wa ⟨Aa, na, ca, rfl, oa, hba⟩
            have hna : (L ++ M.map (· + (s.size + 1))).length = na := by have h := oa.len; rw [List.length_map] at h; exact h
            have hnn : n8 = na := by omega
            subst hnn
            have HI := Lib.hid (kints_same Aa A8 n8 ca c8 (L ++ M.map (· + (s.size + 1))) wa (oa.rd (by decide)) ((o8.below hba).rd (by decide)) hna (by omega))
            go_wp2_with fail
            refine HI.out.mono ?_
            rintro e wb ⟨rfl, hbb⟩
            have hbab := below_two hba hbb
            go_wp2_with fail
            refine (HLv.out _ (hE8.below hbab)).mono ?_
            rintro e wc ⟨rfl, hbc⟩
            go_wp2
            go_ret
            exact ⟨rfl, below_step hb8 (below_two hbab hbc) hb8.size⟩
end Go.Proofs.YtlbfbkdcjdeagaaGreatDoor

