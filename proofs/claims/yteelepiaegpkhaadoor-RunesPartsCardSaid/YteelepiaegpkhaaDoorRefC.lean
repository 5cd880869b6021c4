/-
  kerfref02.Not, And, Minus.
-/
import Derived.Test.YteelepiaegpkhaaDoorRefB
namespace Go.Proofs.YteelepiaegpkhaaDoor
open Go.RowKit

theorem own_nf_len {w : World} {base : Nat} {e : TypeId} {A : Option Addr} {n c : Nat} {l : List (Int × Int)} (h : Own w base e 2 A n c (l.map encR)) (hl : NF l) : n ≤ 557056 := by
  have := h.len; simp at this; have := hl.len; omega

set_option maxHeartbeats 400000 in
theorem sNot_any (A : Option Addr) (n c : Nat) (l : List (Int × Int)) (w : World) (hA : Rd w 2 A (l.map encR)) (hl : l.length = n) (hn : n ≤ 4000000) :
    Calls Tryd.prog 42 #[.slice A n c] w fun e w' => ∃ A' n' c', e = .returned (.slice A' n' c') ∧ Own w' w.heap.size 37 2 A' n' c' ((notR l).map encR) ∧ Below w.heap.size w w' := by
  obtain ⟨i0, hi0, hz0, hz1, hz2⟩ := info_parts infoR
  have Hl := Lib.hid hl
  clear hl
  have HNF := Lib.hid (normR_NF l)
  go_enter Tryd.func42, Tryd.ntmps42
  go_wp2_with (go_at_call 18; go_must (refine (sNorm_any A n c l _ hA Hl.out hn).mono ?_); rintro e w1 ⟨A1, n1, c1, rfl, ho1, hb1⟩)
  have hn1 := own_nf_len ho1 HNF.out
  have hrd := ho1.rd (by omega)
  have Hn1 : Hid ((normR l).length = n1) := Lib.hid (by simpa using ho1.len)
  have hbs1 := hb1.size
  clear ho1
  go_loopw [4, 5, 6] (fun v x i wr => ∃ (k : Nat) (A2 : Option Addr) (n2 c2 : Nat) (o : List (Int × Int)) (next : Int), k ≤ n1 ∧ n2 ≤ k ∧ v = .slice A2 n2 c2 ∧ x = .int .i32 next ∧ i = .int .i64 k ∧ 0 ≤ next ∧ next ≤ 1114112 ∧
      Own wr w1.heap.size 37 2 A2 n2 c2 (o.map encR) ∧ Hid (o ++ notGo next ((normR l).drop k) = notR l) ∧ Below w1.heap.size w1 wr) (fun _ _ i _ => n1 - (intOf i).toNat)
  case atStart => exact ⟨0, none, 0, 0, [], 0, by omega, by omega, rfl, rfl, rfl, by omega, by omega, Own.nil_ _ _ _ _, rfl, Below.refl _ _⟩
  case round =>
    obtain ⟨k, A2, n2, c2, o, next, hk, hn2, rfl, rfl, rfl, hx0, hx1, ho, HO, hb⟩ := hrel
    have hbs := hb.size
    by_cases hlt : k < n1
    · obtain ⟨b, off, lo, hi, rfl, Hx, hc1, hc2⟩ := hrd.atR (k := k) (by have := Hn1.out; omega)
      have hr1 := cell_keep hc1 hb
      have hr2 := cell_keep hc2 hb
      obtain ⟨hb0, hb1', hb2⟩ : 0 ≤ lo ∧ lo ≤ hi ∧ hi ≤ 1114111 := by
        have hm := List.mem_of_getElem? Hx.out
        have := HNF.out.2 _ hm; have := Nf_le HNF.out.1 _ hm; simp only at *; omega
      have HD := Lib.hid (drop_cons_of Hx.out)
      by_cases hc : next < lo
      · go_wp2_with (at_builtin; go_must (refine wpList_app rfl (.tmp 22) (.tmp 31) _ rfl w1.heap.size 37 i0 _ 2 8 Tryd.underlying23 hi0 hz0 hz1 hz2 rfl (by omega) A2 n2 c2 (o.map encR) rfl (ho.alloc _) _ 1 1 [encR (next, lo - 1)] rfl rfl (Rd.newAt (by simp) rfl) (encR_ok [(next, lo - 1)]) (by unfold maxLen; omega) (by omega) (by simp; omega) ?_); intro A3 c3 w3 ho3 hg3 hA3; have hb3 := below_app (hb.alloc hbs (.cells #[.int .i32 next, .int .i32 (lo - 1)] 37)) hg3 (by simp; omega) (fun a ha => (ho.lt a ha).1); clear hg3; have h3 := cell_keep hc2 hb3)
        have Ho3 : Own w3 w1.heap.size 37 2 A3 (n2 + 1) c3 ((o ++ [(next, lo - 1)]).map encR) := by rw [List.map_append]; exact ho3
        clear ho3
        go_roundw
        case rel => exact ⟨k + 1, A3, n2 + 1, c3, o ++ [(next, lo - 1)], hi + 1, by omega, by omega, rfl, rfl, by go_num, by omega, by omega, Ho3, Lib.hid (by rw [← HO.out, HD.out, notGo_cons, if_pos hc, List.append_assoc]), hb3⟩
        case measure => simp [intOf]; omega
      · have hge : lo ≤ next := by omega
        go_wp2
        go_roundw
        case rel => exact ⟨k + 1, A2, n2, c2, o, hi + 1, by omega, by omega, rfl, rfl, by go_num, by omega, by omega, ho, Lib.hid (by rw [← HO.out, HD.out, notGo_cons, if_neg hc, List.nil_append]), hb⟩
        case measure => simp [intOf]; omega
    · have Hdr : Hid ((normR l).drop k = []) := Lib.hid (List.drop_of_length_le (by have := Hn1.out; omega))
      by_cases hc : next ≤ 1114111
      · go_wp2_with (at_builtin; go_must (refine wpList_app rfl (.tmp 41) (.tmp 44) _ rfl w1.heap.size 37 i0 _ 2 8 Tryd.underlying23 hi0 hz0 hz1 hz2 rfl (by omega) A2 n2 c2 (o.map encR) rfl (ho.alloc _) _ 1 1 [encR (next, 1114111)] rfl rfl (Rd.newAt (by simp) rfl) (encR_ok [(next, 1114111)]) (by unfold maxLen; omega) (by omega) (by simp; omega) ?_); intro A3 c3 w3 ho3 hg3 hA3; have hb3 := below_app (hb.alloc hbs (.cells #[.int .i32 next, .int .i32 1114111] 37)) hg3 (by simp; omega) (fun a ha => (ho.lt a ha).1); clear hg3)
        have Ho3 : Own w3 w1.heap.size 37 2 A3 (n2 + 1) c3 ((o ++ [(next, 1114111)]).map encR) := by rw [List.map_append]; exact ho3
        clear ho3
        go_ret
        exact ⟨_, _, _, rfl, by have := HO.out; rw [Hdr.out, notGo_nil, if_pos hc] at this; rw [← this]; exact Ho3.more hbs1, below_step hb1 hb3 hbs1⟩
      · have hgt : 1114111 < next := by omega
        have HE : Hid (o = notR l) := Lib.hid (by have := HO.out; rw [Hdr.out, notGo_nil, if_neg hc, List.append_nil] at this; exact this)
        obtain rfl : next = 1114112 := by omega
        clear hc hx1 hx0 hgt
        go_wp2
        go_ret
        exact ⟨_, _, _, rfl, by rw [← HE.out]; exact ho.more hbs1, below_step hb1 hb hbs1⟩

set_option maxHeartbeats 400000 in
theorem sAnd_any (A A2 : Option Addr) (n c n2 c2 : Nat) (a b : List (Int × Int)) (w : World) (hA : Rd w 2 A (a.map encR)) (hB : Rd w 2 A2 (b.map encR)) (ha : a.length = n) (hb : b.length = n2) (hn : n ≤ 4000000) (hn2 : n2 ≤ 4000000) :
    Calls Tryd.prog 38 #[.slice A n c, .slice A2 n2 c2] w fun e w' => ∃ A' n' c', e = .returned (.slice A' n' c') ∧ Own w' w.heap.size 37 2 A' n' c' ((andR a b).map encR) ∧ Below w.heap.size w w' := by
  have Ha := Lib.hid ha
  have Hb := Lib.hid hb
  clear ha hb
  have H1 := Lib.hid (notR_NF a)
  have H2 := Lib.hid (notR_NF b)
  have H3 := Lib.hid (orR_NF (notR a) (notR b))
  go_enter Tryd.func38, Tryd.ntmps38
  go_wp2_with fail
  refine (sNot_any A n c a _ hA Ha.out hn).mono ?_
  rintro e w1 ⟨A3, n3, c3, rfl, ho1, hb1⟩
  have hn3 := own_nf_len ho1 H1.out
  go_wp2_with fail
  refine (sNot_any A2 n2 c2 b _ (hB.below hb1) Hb.out hn2).mono ?_
  rintro e w2 ⟨A4, n4, c4, rfl, ho2, hb2⟩
  have hn4 := own_nf_len ho2 H2.out
  go_wp2_with fail
  refine (sOr_any A3 A4 n3 c3 n4 c4 (notR a) (notR b) _ ((ho1.rd (by omega)).below hb2) (ho2.rd (by omega)) (by simpa using ho1.len) (by simpa using ho2.len) (by omega)).mono ?_
  rintro e w3 ⟨A5, n5, c5, rfl, ho3, hb3⟩
  have hn5 := own_nf_len ho3 H3.out
  go_wp2_with fail
  refine (sNot_any A5 n5 c5 (orR (notR a) (notR b)) _ (ho3.rd (by omega)) (by simpa using ho3.len) (by omega)).mono ?_
  rintro e w4 ⟨A6, n6, c6, rfl, ho4, hb4⟩
  go_wp2
  go_ret
  exact ⟨_, _, _, rfl, ho4.more (by have := hb1.size; have := hb2.size; have := hb3.size; omega), below_two (below_two (below_two hb1 hb2) hb3) hb4⟩

set_option maxHeartbeats 400000 in
theorem sMinus_any (A A2 : Option Addr) (n c n2 c2 : Nat) (a b : List (Int × Int)) (w : World) (hA : Rd w 2 A (a.map encR)) (hB : Rd w 2 A2 (b.map encR)) (ha : a.length = n) (hb : b.length = n2) (hn : n ≤ 4000000) (hn2 : n2 ≤ 4000000) :
    Calls Tryd.prog 40 #[.slice A n c, .slice A2 n2 c2] w fun e w' => ∃ A' n' c', e = .returned (.slice A' n' c') ∧ Own w' w.heap.size 37 2 A' n' c' ((minusR a b).map encR) ∧ Below w.heap.size w w' := by
  have Ha := Lib.hid ha
  have Hb := Lib.hid hb
  clear ha hb
  have H2 := Lib.hid (notR_NF b)
  go_enter Tryd.func40, Tryd.ntmps40
  go_wp2_with fail
  refine (sNot_any A2 n2 c2 b _ hB Hb.out hn2).mono ?_
  rintro e w2 ⟨A4, n4, c4, rfl, ho2, hb2⟩
  have hn4 := own_nf_len ho2 H2.out
  go_wp2_with fail
  refine (sAnd_any A A4 n c n4 c4 a (notR b) _ (hA.below hb2) (ho2.rd (by omega)) Ha.out (by simpa using ho2.len) hn (by omega)).mono ?_
  rintro e w3 ⟨A5, n5, c5, rfl, ho3, hb3⟩
  go_wp2
  go_ret
  exact ⟨_, _, _, rfl, ho3.more hb2.size, below_two hb2 hb3⟩
end Go.Proofs.YteelepiaegpkhaaDoor
