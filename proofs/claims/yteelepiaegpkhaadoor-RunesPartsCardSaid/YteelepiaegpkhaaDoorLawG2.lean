/-
  kerflaw02.RunesParts, walked, where each rune is whole.
-/
import Derived.Test.YteelepiaegpkhaaDoorLawG0
namespace Go.Proofs.YteelepiaegpkhaaDoor
open Go.RowKit Go.Shelf
attribute [local go_sem] Oper.semAt_some

set_option maxRecDepth 100000 in
set_option maxHeartbeats 4000000 in
theorem kRunesParts_t (s : ByteArray) (A : Option Addr) (n c : Nat) (l : List (Int × Int)) (w : World) (hT : Tabs w) (hm : s.size ≤ maxLen) (hA : Rd w 2 A (l.map encR)) (ha : l.length = n) (hn : n ≤ maxLen) (hval : vldB s (runesP s).length = true) :
    Calls Tryd.prog 8 #[.string s, .slice A n c] w fun e w' => e = .returned (.bool true) ∧ RowKit.Below w.heap.size w w' := by
  unfold maxLen at hn hm
  have Hval := Lib.hid hval
  clear hval
  refine (callsIn_wide (n := 6)).1 ?_
  refine callsIn_of_wp_marks Tryd.func8 rfl trivial ?_ rfl
  simp only [Tryd.ntmps8, List.size_toArray, List.length_cons, List.length_nil, Nat.reduceAdd, Nat.reduceSub, Array.replicate_succ, Array.replicate_zero, List.push_toArray, List.append_toArray, List.nil_append, List.cons_append]
  refine wpIn_wide.2 ?_
  by_cases h1 : 20000 < s.size
  · clear hA ha
    go_wp2_with fail
    refine (klive_any _ hT).mono ?_
    rintro e wz ⟨rfl, hb⟩
    go_wp2_with fail
    exact ⟨_, by simp [results, Tryd.results8, go_sem], rfl, hb⟩
  by_cases h2 : 60 < n
  · clear hA ha
    go_wp2_with fail
    refine (klive_any _ hT).mono ?_
    rintro e wz ⟨rfl, hb⟩
    go_wp2_with fail
    exact ⟨_, by simp [results, Tryd.results8, go_sem], rfl, hb⟩
  have hn6 : n ≤ 60 := by omega
  have hs6 : s.size ≤ 20000 := by omega
  have hs9 : s.size ≤ 1000000 := by omega
  clear h1 h2 hn hm
  have ka : Sl w A n l := ⟨hA, ha, by omega⟩
  clear hA ha
  have HB : RowKit.Below w.heap.size w w := RowKit.Below.refl _ _
  obtain ⟨K1, hK1⟩ : ∃ K : ByteArray, (⟨(keepP s l).toArray⟩ : ByteArray) = K := ⟨_, rfl⟩
  obtain ⟨K2, hK2⟩ : ∃ K : ByteArray, (⟨(keepP s (notR l)).toArray⟩ : ByteArray) = K := ⟨_, rfl⟩
  have hz1 : K1.size = (keepP s l).length := by rw [← hK1, ← size_data]
  have hz2 : K2.size = (keepP s (notR l)).length := by rw [← hK2, ← size_data]
  have hzz := keepP_two s l
  have hne : (((K1.size : Int) + (K2.size : Int)) != (s.size : Int)) = false := by rw [bne_eq_false_iff_eq]; omega
  have hk1 : K1.size ≤ 20000 := by omega
  have hk2 : K2.size ≤ 20000 := by omega
  have HK1 := Lib.hid hK1
  have HK2 := Lib.hid hK2
  clear hK1 hK2 hz1 hz2 hzz
  go_wp2_with fail
  refine (slrNot ka).mono ?_
  rintro e w1 ⟨A1, n1, c1, rfl, kn, hb⟩
  replace ka := ka.below hb
  replace HB := below_two HB hb
  clear hb
  go_wp2_with fail
  refine (rKeep_any s A n c l _ ka.rd ka.len (by omega) hs9).mono ?_
  rintro e w2 ⟨rfl, hb⟩
  rw [HK1.out]
  replace ka := ka.below hb
  replace kn := kn.below hb
  replace HB := below_two HB hb
  clear hb
  go_wp2_with fail
  refine (rKeep_any s A1 n1 c1 (notR l) _ kn.rd kn.len (by have := kn.le; omega) hs9).mono ?_
  rintro e w3 ⟨rfl, hb⟩
  rw [HK2.out]
  replace ka := ka.below hb
  replace kn := kn.below hb
  replace HB := below_two HB hb
  clear hb
  go_wp2_with fail
  refine (sRunes_any s _ hs9).mono ?_
  rintro e w4 ⟨A4, n4, c4, rfl, o4, hb⟩
  replace ka := ka.below hb
  replace kn := kn.below hb
  replace HB := below_two HB hb
  clear hb
  have hl4 : n4 ≤ 20000 := by have h1 := o4.len; have h2 := runesP_len s; rw [List.length_map] at h1; omega
  have Hl4 := Lib.hid (show (runesP s).length = n4 by have h1 := o4.len; rw [List.length_map] at h1; exact h1)
  clear hne
  go_wp2_with fail
  go_loopw [7, 9] (fun v i wr => ∃ (k q : Nat), k ≤ n4 ∧ v = .bool (vldB s k) ∧ i = .int .i64 k ∧ wr = w4.drewN q) (fun _ i _ => n4 - (intOf i).toNat)
  case atStart => exact ⟨0, 0, by omega, rfl, rfl, rfl⟩
  case round =>
    obtain ⟨k, q, hk, rfl, rfl, rfl⟩ := hrel
    by_cases hlt : k < n4
    · obtain ⟨⟨R, fr, tz⟩, hx⟩ : ∃ y, (runesP s)[k]? = some y := ⟨_, List.getElem?_eq_getElem (by have := Hl4.out; omega)⟩
      have hxb := runesP_bd _ (List.mem_of_getElem? hx)
      have Hsu := Lib.hid (vldB_succ hx)
      obtain ⟨g4, rfl, _, hg4⟩ := o4.form (by omega)
      have hxe : ((runesP s).map encRn)[k]? = some (encRn (R, fr, tz)) := by rw [List.getElem?_map, hx]; rfl
      have d0 := o4.cell (k := k) (j := 0) hxe rfl
      have d1 := o4.cell (k := k) (j := 1) hxe rfl
      have d2 := o4.cell (k := k) (j := 2) hxe rfl
      simp only [Nat.add_zero] at d0 d1 d2
      simp only at hxb
      clear hx hxe
      cases hv : vldB s k with
      | false =>
        have Hs2 : Hid (vldB s (k + 1) = false) := Lib.hid (by rw [Hsu.out, hv]; rfl)
        clear Hsu
        go_wp2_with fail
        go_quiet (fail)
        go_wp2
        go_roundw
        case rel => exact ⟨k + 1, _, by omega, by rw [Hs2.out], by go_num, rfl⟩
        case measure => simp [intOf]; omega
      | true =>
        by_cases hR : R = 65533
        · subst hR
          by_cases h3 : tz - fr = 3
          · have Hs2 : Hid (vldB s (k + 1) = true) := Lib.hid (by rw [Hsu.out, hv, decide_eq_true h3]; simp)
            have h33 : (((tz : Int) - (fr : Int)) == 3) = true := by rw [beq_iff_eq]; omega
            clear Hsu h3
            go_wp2_with fail
            go_quiet (fail)
            go_wp2
            go_roundw
            case rel => exact ⟨k + 1, _, by omega, by rw [Hs2.out], by go_num, rfl⟩
            case measure => simp [intOf]; omega
          · have Hs2 : Hid (vldB s (k + 1) = false) := Lib.hid (by rw [Hsu.out, hv, decide_eq_false h3]; simp)
            have h3' : (((tz : Int) - (fr : Int)) == 3) = false := by rw [beq_eq_false_iff_ne]; omega
            clear Hsu h3
            go_wp2_with fail
            go_quiet (fail)
            go_wp2
            go_roundw
            case rel => exact ⟨k + 1, _, by omega, by rw [Hs2.out], by go_num, rfl⟩
            case measure => simp [intOf]; omega
        · have Hs2 : Hid (vldB s (k + 1) = true) := Lib.hid (by rw [Hsu.out, hv, decide_eq_true hR]; simp)
          have hR' : ((R : Int) != 65533) = true := by rw [bne_iff_ne]; omega
          clear Hsu hR
          go_wp2_with fail
          go_quiet (fail)
          go_wp2
          go_roundw
          case rel => exact ⟨k + 1, _, by omega, by rw [Hs2.out], by go_num, rfl⟩
          case measure => simp [intOf]; omega
    · obtain rfl : k = n4 := by omega
      have hbq : RowKit.Below w4.heap.size w4 (w4.drewN q) := below_drewN (RowKit.Below.refl _ _) q
      replace ka := ka.below hbq
      replace kn := kn.below hbq
      replace HB := below_two HB hbq
      clear o4
      generalize w4.drewN q = w4' at ka kn HB ⊢
      clear hbq
      have hv : vldB s k = true := by rw [← Hl4.out]; exact Hval.out
      have HE := Lib.hid (ofP_keepP s l (vldB_all (by rw [Hl4.out]; exact hv)))
      rw [HK1.out] at HE
      go_wp2_with fail
      refine (rOf_any K1 _ (by omega)).mono ?_
      rintro e w5a ⟨A5, n5, c5, rfl, o5, hb⟩
      have k5 := Sl.own o5 (normR_NF _)
      clear o5
      replace ka := ka.below hb
      replace kn := kn.below hb
      replace HB := below_two HB hb
      clear hb
      go_wp2_with fail
      refine (rOf_any s _ hs9).mono ?_
      rintro e w5b ⟨A6, n6, c6, rfl, o6, hb⟩
      have k6 := Sl.own o6 (normR_NF _)
      clear o6
      replace ka := ka.below hb
      replace kn := kn.below hb
      replace k5 := k5.below hb
      replace HB := below_two HB hb
      clear hb
      go_wp2_with fail
      refine (slrAnd k6 ka).mono ?_
      rintro e w5c ⟨A7, n7, c7, rfl, k7, hb⟩
      replace ka := ka.below hb
      replace kn := kn.below hb
      replace k5 := k5.below hb
      replace HB := below_two HB hb
      clear hb k6
      go_wp2_with fail
      refine (slSame k5 k7 HE.out).mono ?_
      rintro e w5 ⟨rfl, hb⟩
      replace ka := ka.below hb
      replace kn := kn.below hb
      replace HB := below_two HB hb
      clear hb k5 k7
      have hzw5 := HB.size
      have hbA : RowKit.Below w5.heap.size w5 ((w5.alloc (.cells #[.slice none 0 0] 53)).alloc (.cells #[.slice none 0 0] 53)) := ((RowKit.Below.refl _ _).alloc (Nat.le_refl _) _).alloc (by simp) _
      have Ba : Blk ((w5.alloc (.cells #[.slice none 0 0] 53)).alloc (.cells #[.slice none 0 0] 53)) w5.heap.size 53 #[.slice none 0 0] := (Blk.new w5 53 #[.slice none 0 0]).alloc _
      have Bb : Blk ((w5.alloc (.cells #[.slice none 0 0] 53)).alloc (.cells #[.slice none 0 0] 53)) (w5.heap.size + 1) 53 #[.slice none 0 0] := by
        have := Blk.new (w5.alloc (.cells #[.slice none 0 0] 53)) 53 #[.slice none 0 0]
        simpa using this
      go_wp2_with fail
      generalize ((w5.alloc (.cells #[.slice none 0 0] 53)).alloc (.cells #[.slice none 0 0] 53)) = w6 at hbA Ba Bb ⊢
      replace ka := ka.below hbA
      replace kn := kn.below hbA
      replace HB := below_two HB hbA
      have hzab := Bb.lt
      have hz5 := hbA.size
      clear hbA
      refine (rRuns_any s A n c l _ ka.rd ka.len (by omega)).mono ?_
      rintro e w7 ⟨bs, bset, rfl, hit, hb⟩
      have hz67 := hb.size
      replace ka := ka.below hb
      replace kn := kn.below hb
      replace Ba := Ba.below hb
      replace Bb := Bb.below hb
      replace HB := below_two HB hb
      clear hb
      go_wp2_with fail
      refine (rRuns_any s A1 n1 c1 (notR l) _ kn.rd kn.len (by have := kn.le; omega)).mono ?_
      rintro e w8 ⟨bs2, bset2, rfl, hit2, hb⟩
      have hz78 := hb.size
      replace hit := hit.below hb
      replace Ba := Ba.below hb
      replace Bb := Bb.below hb
      replace HB := below_two HB hb
      clear hb ka kn
      have hnil1 := seq2_nil (.func 60) #[] #[.pointer (some ⟨bs, 0, none⟩), .pointer (some ⟨bset, 0, none⟩)]
      have hnil2 := seq2_nil (.func 60) #[] #[.pointer (some ⟨bs2, 0, none⟩), .pointer (some ⟨bset2, 0, none⟩)]
      have Hr1 := Lib.hid (runsP_normR s l)
      have Hr2 := Lib.hid (runsP_normR s (notR l))
      have HRl := Lib.hid (runsP_len s l)
      have HRl2 := Lib.hid (runsP_len s (notR l))
      have HB8 := HB.size
      go_wp2_with fail
      clear hnil1 hnil2
      refine (wpIn_wide (n := 6)).1 ?_
      refine rngH rfl (by decide) (gf := 60) (lb := #[.pointer (some ⟨bs, 0, none⟩), .pointer (some ⟨bset, 0, none⟩)]) rfl trivial (enters_of Tryd.func60 (by kernel_rfl) rfl)
        (runs_stops 5 (by decide) w8 s (normR l) w6.heap.size bs bset hs9 hit) Kp.trans (Kp.put (Nat.le_refl _)) (RowKit.Below.refl _ _) (fun _ => rfl) (Kp.refl _ _)
        (fun (pre : List (Span s)) W => Gath w8 w5.heap.size (spn pre) W) (fun _ _ _ => False) (Gath.own (Nat.le_refl _)) (fun _ _ _ _ _ hs _ _ => hs)
        ⟨none, 0, 0, Ba, Own.nil_ _ _ _ _, only_refl _ _⟩
        (fun T (x : Span s) => (((T.setIfInBounds 98 (.int .i64 x.1.1)).setIfInBounds 99 (.int .i64 x.1.2)).setIfInBounds 14 (.int .i64 x.1.1)).setIfInBounds 15 (.int .i64 x.1.2)) ?assignT ?bodyT ?doneT ?stopT
      case assignT =>
        intro l2 x W K hK
        simp only [List.setIfInBounds_toArray, List.set_cons_succ, List.set_cons_zero] at hK
        simp only [encP]
        gi_wp2
        exact hK
      case stopT =>
        rintro D cc pre W _ hp h _
        exact absurd h id
      case bodyT =>
        rintro l2 pre ⟨⟨a, b⟩, hab, hbz⟩ W hl2 _ ⟨A9, n9, c9, BaW, oW, hgW⟩ hlen
        simp only [List.setIfInBounds_toArray, List.set_cons_succ, List.set_cons_zero]
        obtain ⟨i0, hi0, hz0, hz1, hz2⟩ := info_parts infoInt
        have hl9 : n9 ≤ 2 * pre.length := by have h1 := oW.len; rw [encI2_len] at h1; simp [spn] at h1; omega
        have hp9 : pre.length ≤ 20001 := by rw [Hr1.out] at hlen; have := HRl.out; omega
        have c10 := BaW.cell 0
        simp only [List.getElem?_toArray, List.getElem?_cons_zero] at c10
        have hzW := hgW.size
        have hA9 := oW.lt
        simp only at hab hbz
        gi_wp2_with (gi_at_builtin; go_must (refine wpListIn_app rfl (.tmp 100) (.tmp 103) _ rfl w8.heap.size 3 i0 _ 1 8 Tryd.underlying53 hi0 hz0 hz1 hz2 rfl (by omega) A9 n9 c9 (encI2 (spn pre)) rfl (oW.alloc _) _ 2 2 [[.int .i64 a], [.int .i64 b]] rfl rfl (Rd.twoAt (w := W) rfl rfl) (encI2_ok [(a, b)]) (by unfold maxLen; omega) (by omega) (by simp; omega) ?_); intro A3 c3 w3 ho3 hg3 hA3; have B3 := (BaW.alloc (.cells #[.int .i64 a, .int .i64 b] 3)).grown hg3 (fun e => by cases A9 with | none => simp at e | some q => have := (hA9 q rfl).1; simp at e; omega); have f10 := B3.frozen 0; have c10b := B3.cell 0; simp only [List.getElem?_toArray, List.getElem?_cons_zero] at c10b)
        have hrow : ∀ (j : Nat) (o : Obj), A9.map (·.block) = some j → (W.alloc (.cells #[.int .i64 a, .int .i64 b] 3)).heap[j]? = some o → o.isCells = true := fun j o hj ho => by
          cases A9 with
          | none => simp at hj
          | some q =>
            simp at hj; subst hj
            rcases oW.2.2.2 with ⟨h0, _⟩ | ⟨g, cap, cur, hv, _, hh, _⟩
            · injection h0 with h0; cases h0
            · injection hv with hv
              injection hv with hv
              subst hv
              rw [(Below.heap_alloc W _ g (Array.getElem?_eq_some_iff.1 hh).1).trans hh] at ho
              cases ho; rfl
        have hk1 := (KeepsOthers.alloc W (.cells #[.int .i64 a, .int .i64 b] 3)).trans (KeepsOthers.of_grownBy hg3 hrow)
        have hkk := hk1.trans (KeepsOthers.setCell w3 ⟨w5.heap.size, 0, none⟩ (.slice A3 (n9 + 2) c3))
        have hge : ∀ q, A9.map (·.block) = some q → w8.heap.size ≤ q := fun q hq => by
          cases A9 with
          | none => simp at hq
          | some z => have := (hA9 z rfl).1; simp at hq; omega
        have hblk : ∀ k, k < w8.heap.size → w3.heap[k]? = W.heap[k]? := fun k hk => (hg3.block k (by simp; omega) (fun e => by have := hge k e.symm; omega)).trans (Below.heap_alloc W _ k (by omega))
        have hz3 : W.heap.size ≤ w3.heap.size := by have := hg3.size; simp at this; omega
        have ho4 : Own (w3.setCell ⟨w5.heap.size, 0, none⟩ (.slice A3 (n9 + 2) c3)) w8.heap.size 3 1 A3 (n9 + 2) c3 (encI2 (spn (pre ++ [(⟨(a, b), hab, hbz⟩ : Span s)]))) := by
          have h9 := ho3.keep (w' := w3.setCell ⟨w5.heap.size, 0, none⟩ (.slice A3 (n9 + 2) c3)) (fun q hq => Below.heap_setCell w3 ⟨w5.heap.size, 0, none⟩ _ _ (by have := (ho3.lt q hq).1; simp only; omega))
          rw [spn_snoc, encI2_append]; exact h9
        refine ⟨hkk.from _, ⟨⟨by simpa [World.setCell] using hz3, fun k h1 h2 => (Below.heap_setCell w3 ⟨w5.heap.size, 0, none⟩ _ k (by simp only; omega)).trans (hblk k h2)⟩, hkk.walks⟩, A3, n9 + 2, c3, B3.set_ 0 _, ho4, ?_⟩
        refine ⟨hg3.os.trans hgW.os, hg3.tape.trans hgW.tape, hg3.output.trans hgW.output, by simpa [World.setCell] using Nat.le_trans hzW hz3, fun k hk hne => ?_⟩
        exact (Below.heap_setCell w3 ⟨w5.heap.size, 0, none⟩ _ k (fun e => hne (by rw [e]))).trans ((hblk k hk).trans (hgW.block k hk hne))
      case doneT =>
        rintro D ys w9 hD hys ⟨Aa, na, ca, Ba9, oa9, hg9⟩ hKD
        have hz89 := hg9.size
        have Bb9 := Bb.grown hg9 (fun e => by injection e; omega)
        replace hit2 : RunsIt w9 s (normR (notR l)) w7.heap.size bs2 bset2 := hit2.mid ⟨hg9.size, fun k h1 h2 => hg9.block k h2 (fun e => by injection e; omega)⟩
        go_wp2_with fail
        refine (wpIn_wide (n := 6)).1 ?_
        refine rngH rfl (by decide) (gf := 60) (lb := #[.pointer (some ⟨bs2, 0, none⟩), .pointer (some ⟨bset2, 0, none⟩)]) rfl trivial (enters_of Tryd.func60 (by kernel_rfl) rfl)
          (runs_stops 5 (by decide) w9 s (normR (notR l)) w7.heap.size bs2 bset2 hs9 hit2) Kp.trans (Kp.put (Nat.le_refl _)) (RowKit.Below.refl _ _) (fun _ => rfl) (Kp.refl _ _)
          (fun (pre : List (Span s)) W => Gath w9 (w5.heap.size + 1) (spn pre) W) (fun _ _ _ => False) (Gath.own (Nat.le_refl _)) (fun _ _ _ _ _ hs _ _ => hs)
          ⟨none, 0, 0, Bb9, Own.nil_ _ _ _ _, only_refl _ _⟩
          (fun T (x : Span s) => (((T.setIfInBounds 106 (.int .i64 x.1.1)).setIfInBounds 107 (.int .i64 x.1.2)).setIfInBounds 16 (.int .i64 x.1.1)).setIfInBounds 17 (.int .i64 x.1.2)) ?assign2T ?body2T ?done2T ?stop2T
        case assign2T =>
          intro l2 x W K hK
          simp only [List.setIfInBounds_toArray, List.set_cons_succ, List.set_cons_zero] at hK
          simp only [encP]
          gi_wp2
          exact hK
        case stop2T =>
          rintro D cc pre W _ hp h _
          exact absurd h id
        case body2T =>
          rintro l2 pre ⟨⟨a, b⟩, hab, hbz⟩ W hl2 _ ⟨A9, n9, c9, BaW, oW, hgW⟩ hlen
          simp only [List.setIfInBounds_toArray, List.set_cons_succ, List.set_cons_zero]
          obtain ⟨i0, hi0, hz0, hz1, hz2⟩ := info_parts infoInt
          have hl9 : n9 ≤ 2 * pre.length := by have h1 := oW.len; rw [encI2_len] at h1; simp [spn] at h1; omega
          have hp9 : pre.length ≤ 20001 := by rw [Hr2.out] at hlen; have := HRl2.out; omega
          have c10 := BaW.cell 0
          simp only [List.getElem?_toArray, List.getElem?_cons_zero] at c10
          have hzW := hgW.size
          have hA9 := oW.lt
          simp only at hab hbz
          gi_wp2_with (gi_at_builtin; go_must (refine wpListIn_app rfl (.tmp 108) (.tmp 111) _ rfl w9.heap.size 3 i0 _ 1 8 Tryd.underlying53 hi0 hz0 hz1 hz2 rfl (by omega) A9 n9 c9 (encI2 (spn pre)) rfl (oW.alloc _) _ 2 2 [[.int .i64 a], [.int .i64 b]] rfl rfl (Rd.twoAt (w := W) rfl rfl) (encI2_ok [(a, b)]) (by unfold maxLen; omega) (by omega) (by simp; omega) ?_); intro A3 c3 w3 ho3 hg3 hA3; have B3 := (BaW.alloc (.cells #[.int .i64 a, .int .i64 b] 3)).grown hg3 (fun e => by cases A9 with | none => simp at e | some q => have := (hA9 q rfl).1; simp at e; omega); have f10 := B3.frozen 0; have c10b := B3.cell 0; simp only [List.getElem?_toArray, List.getElem?_cons_zero] at c10b)
          have hrow : ∀ (j : Nat) (o : Obj), A9.map (·.block) = some j → (W.alloc (.cells #[.int .i64 a, .int .i64 b] 3)).heap[j]? = some o → o.isCells = true := fun j o hj ho => by
            cases A9 with
            | none => simp at hj
            | some q =>
              simp at hj; subst hj
              rcases oW.2.2.2 with ⟨h0, _⟩ | ⟨g, cap, cur, hv, _, hh, _⟩
              · injection h0 with h0; cases h0
              · injection hv with hv
                injection hv with hv
                subst hv
                rw [(Below.heap_alloc W _ g (Array.getElem?_eq_some_iff.1 hh).1).trans hh] at ho
                cases ho; rfl
          have hk1 := (KeepsOthers.alloc W (.cells #[.int .i64 a, .int .i64 b] 3)).trans (KeepsOthers.of_grownBy hg3 hrow)
          have hkk := hk1.trans (KeepsOthers.setCell w3 ⟨(w5.heap.size + 1), 0, none⟩ (.slice A3 (n9 + 2) c3))
          have hge : ∀ q, A9.map (·.block) = some q → w9.heap.size ≤ q := fun q hq => by
            cases A9 with
            | none => simp at hq
            | some z => have := (hA9 z rfl).1; simp at hq; omega
          have hblk : ∀ k, k < w9.heap.size → w3.heap[k]? = W.heap[k]? := fun k hk => (hg3.block k (by simp; omega) (fun e => by have := hge k e.symm; omega)).trans (Below.heap_alloc W _ k (by omega))
          have hz3 : W.heap.size ≤ w3.heap.size := by have := hg3.size; simp at this; omega
          have ho4 : Own (w3.setCell ⟨(w5.heap.size + 1), 0, none⟩ (.slice A3 (n9 + 2) c3)) w9.heap.size 3 1 A3 (n9 + 2) c3 (encI2 (spn (pre ++ [(⟨(a, b), hab, hbz⟩ : Span s)]))) := by
            have h9 := ho3.keep (w' := w3.setCell ⟨(w5.heap.size + 1), 0, none⟩ (.slice A3 (n9 + 2) c3)) (fun q hq => Below.heap_setCell w3 ⟨(w5.heap.size + 1), 0, none⟩ _ _ (by have := (ho3.lt q hq).1; simp only; omega))
            rw [spn_snoc, encI2_append]; exact h9
          refine ⟨hkk.from _, ⟨⟨by simpa [World.setCell] using hz3, fun k h1 h2 => (Below.heap_setCell w3 ⟨(w5.heap.size + 1), 0, none⟩ _ k (by simp only; omega)).trans (hblk k h2)⟩, hkk.walks⟩, A3, n9 + 2, c3, B3.set_ 0 _, ho4, ?_⟩
          refine ⟨hg3.os.trans hgW.os, hg3.tape.trans hgW.tape, hg3.output.trans hgW.output, by simpa [World.setCell] using Nat.le_trans hzW hz3, fun k hk hne => ?_⟩
          exact (Below.heap_setCell w3 ⟨(w5.heap.size + 1), 0, none⟩ _ k (fun e => hne (by rw [e]))).trans ((hblk k hk).trans (hgW.block k hk hne))
        case done2T =>
          rintro D2 ys2 w10 hD2 hys2 ⟨Ab, nb, cb, Bb10, ob10, hg10⟩ hKD2
          have hz910 := hg10.size
          have Ba10 := Ba9.grown hg10 (fun e => by injection e; omega)
          have oa10 := oa9.ofGrown hg10 (fun a ha e => by have := (oa9.lt a ha).1; injection e; omega)
          have Hla := Lib.hid (show spn ys = runsP s l from hys.trans Hr1.out)
          have Hlb := Lib.hid (show spn ys2 = runsP s (notR l) from hys2.trans Hr2.out)
          have HT := Lib.hid (turns_all s l)
          rw [Hla.out] at oa10
          rw [Hlb.out] at ob10
          have hca := oa10.cap
          have hcb := ob10.cap
          have hna := oa10.len
          have hnb := ob10.len
          rw [encI2_len] at hna hnb
          have hna9 : na ≤ 50000 := by have := HRl.out; omega
          have hnb9 : nb ≤ 50000 := by have := HRl2.out; omega
          have Hna := Lib.hid hna
          have Hnb := Lib.hid hnb
          have hoa : ∀ p, Aa = some p → w8.heap.size ≤ p.block := fun p hp => (oa9.lt p hp).1
          have hob : ∀ p, Ab = some p → w8.heap.size ≤ p.block := fun p hp => by have := (ob10.lt p hp).1; omega
          have Hoa := Lib.hid hoa
          have Hob := Lib.hid hob
          have ra := oa10.rd (by decide)
          have rb := ob10.rd (by decide)
          unfold maxLen at hca hcb
          clear hna hnb hoa hob oa9 oa10 ob10 Ba9 Bb9 hys hys2
          go_wp2_with fail
          go_loopw [18] (fun v wr => ∃ (p : Nat) (La Lb : List (Nat × Nat)) (Aa : Option Addr) (na ca : Nat) (Ab : Option Addr) (nb cb : Nat), v = .int .i64 p ∧ Blk wr w5.heap.size 53 #[.slice Aa na ca] ∧ Blk wr (w5.heap.size + 1) 53 #[.slice Ab nb cb] ∧
              Rd wr 1 Aa (encI2 La) ∧ Rd wr 1 Ab (encI2 Lb) ∧ Hid (La.length * 2 = na) ∧ Hid (Lb.length * 2 = nb) ∧ Hid (∀ p, Aa = some p → w8.heap.size ≤ p.block) ∧ Hid (∀ p, Ab = some p → w8.heap.size ≤ p.block) ∧
              Hid (Turns s.size p La Lb) ∧ Two w5.heap.size (w5.heap.size + 1) w10 wr ∧ na ≤ ca ∧ ca ≤ 9223372036854775807 ∧ na ≤ 50000 ∧ nb ≤ cb ∧ cb ≤ 9223372036854775807 ∧ nb ≤ 50000) (fun v _ => s.size - (intOf v).toNat)
          case atStart => exact ⟨0, _, _, _, _, _, _, _, _, rfl, Ba10, Bb10, ra, rb, Hna, Hnb, Hoa, Hob, HT, Two.refl _ _ _, hca.1, hca.2, hna9, hcb.1, hcb.2, hnb9⟩
          case round =>
            clear Ba10 Bb10 ra rb HT hca hcb hna9 hnb9
            obtain ⟨p, La, Lb, Aa, na, ca, Ab, nb, cb, rfl, hBa, hBb, ra, rb, HA, HBn, HoA, HoB, HT, htw, hc1, hc2, hc3, hc4, hc5, hc6⟩ := hrel
            have c10 := hBa.cell 0
            have f10 := hBa.frozen 0
            have c11 := hBb.cell 0
            have f11 := hBb.frozen 0
            simp only [List.getElem?_toArray, List.getElem?_cons_zero] at c10 c11
            have ht := HT.out
            have HBx : RowKit.Below w.heap.size w wr := ((HB.trans (below_only hg9 (by omega) (by omega))).trans (below_only hg10 (by omega) (by omega))).trans (htw.toBelow (by omega) (by omega) (by omega))
            have hKr : wr.heap[D]? = some (.deferred (some [])) := (htw.block D (by have := (Array.getElem?_eq_some_iff.1 hKD).1; omega) (by omega) (by omega)).trans ((hg10.block D (Array.getElem?_eq_some_iff.1 hKD).1 (fun e => by injection e; omega)).trans hKD)
            have hKr2 : wr.heap[D2]? = some (.deferred (some [])) := (htw.block D2 (Array.getElem?_eq_some_iff.1 hKD2).1 (by omega) (by omega)).trans hKD2
            have HK := Lib.hid (And.intro hKr hKr2)
            have Hsz := Lib.hid (And.intro hz89 (And.intro hz910 (And.intro hD (And.intro hD2 (And.intro hzw5 (And.intro hz5 (And.intro hz67 hz78)))))))
            clear hKr hKr2
            cases ht with
            | done =>
              obtain rfl : na = 0 := by have := HA.out; simpa using this.symm
              obtain rfl : nb = 0 := by have := HBn.out; simpa using this.symm
              go_wp2_with fail
              refine (klive_any _ (hT.below HBx)).mono ?_
              rintro e wz ⟨rfl, hb⟩
              have hk1 := (hb.block D (Array.getElem?_eq_some_iff.1 HK.out.1).1).trans HK.out.1
              have hk2 := (hb.block D2 (Array.getElem?_eq_some_iff.1 HK.out.2).1).trans HK.out.2
              have HBz := below_two HBx hb
              go_wp2_with fail
              refine ⟨by simp, .inl ⟨_, _, rfl, run_takeDeferred hk2, ?_⟩⟩
              have hDD : D ≠ D2 := by rintro rfl; have := (Array.getElem?_eq_some_iff.1 hKD).1; omega
              have hk1' := (World.putObj_heap_other (w := wz) (o := .deferred none) hDD).trans hk1
              refine ⟨by simp, .inl ⟨_, _, rfl, run_takeDeferred hk1', ?_⟩⟩
              have hq := Hsz.out
              exact ⟨_, by simp [results, Tryd.results8, go_sem], rfl, (HBz.trans (belowK_b (w := w) (Nat.le_refl _) _ D2 _ _ (by omega) hk2 rfl rfl)).trans (belowK_b (w := w) (Nat.le_refl _) _ D _ _ (by omega) hk1' rfl rfl)⟩
            | left h1 h2 h3 h4 =>
              rename_i t La
              have HT' := Lib.hid h4
              obtain ⟨g, off, rfl, hcell⟩ := ra (by simp [encI2])
              have d0 := hcell 0 0 [.int .i64 p] (.int .i64 p) rfl rfl
              have d1 := hcell 1 0 [.int .i64 t] (.int .i64 t) rfl rfl
              simp only [Nat.zero_mul, Nat.one_mul, Nat.add_zero] at d0 d1
              have hg8 := HoA.out _ rfl
              have hna2 : 2 ≤ na := by have := HA.out; simp at this; omega
              simp only at hg8
              have hpt : (p : Int) < (t : Int) := by omega
              cases La with
              | nil =>
                obtain rfl : na = 2 := by have := HA.out; simp at this; omega
                by_cases hcc : ca = 2
                · subst hcc
                  go_wp2_with fail
                  go_roundw
                  case rel => exact ⟨t, [], Lb, _, _, _, Ab, nb, cb, rfl, hBa.set_ 0 _, hBb.far (p := ⟨w5.heap.size, 0, none⟩) (by simp) _, Rd.nil_ _ _ _, rb.setCell (p := ⟨w5.heap.size, 0, none⟩) (fun q hq => by have := HoB.out q hq; simp only; omega) _, Lib.hid rfl, HBn, Lib.hid (fun q hq => by cases hq; exact hg8), HoB, HT', htw.setCell (p := ⟨w5.heap.size, 0, none⟩) (.inl rfl) _, by omega, by omega, by omega, hc4, hc5, hc6⟩
                  case measure => simp [intOf]; omega
                · go_wp2_with fail
                  go_roundw
                  case rel => exact ⟨t, [], Lb, _, _, _, Ab, nb, cb, rfl, hBa.set_ 0 _, hBb.far (p := ⟨w5.heap.size, 0, none⟩) (by simp) _, Rd.nil_ _ _ _, rb.setCell (p := ⟨w5.heap.size, 0, none⟩) (fun q hq => by have := HoB.out q hq; simp only; omega) _, Lib.hid rfl, HBn, Lib.hid (fun q hq => by cases hq; exact hg8), HoB, HT', htw.setCell (p := ⟨w5.heap.size, 0, none⟩) (.inl rfl) _, by omega, by omega, by omega, hc4, hc5, hc6⟩
                  case measure => simp [intOf]; omega
              | cons y La =>
                obtain ⟨y1, y2⟩ := y
                have hn4 : 4 ≤ na := by have := HA.out; simp at this; omega
                have d2 := hcell 2 0 [.int .i64 y1] (.int .i64 y1) rfl rfl
                simp only [Nat.add_zero] at d2
                have hy := h3 (y1, y2) rfl
                have hyt : ((y1 : Int) == (t : Int)) = false := by rw [beq_eq_false_iff_ne]; simp only at hy; omega
                have d2' : (wr.setCell ⟨w5.heap.size, 0, none⟩ (.slice (some ⟨g, off + 2, none⟩) (na - 2) (ca - 2))).cell? ⟨g, off + 2, none⟩ = some (.int .i64 y1) := by
                  rw [World.cell?_setCell_other _ _ _ _ (by intro e; injection e with e; omega)]; exact d2
                have hcc : ¬ ca = 2 := by omega
                have hr2 := Rd.tail2 (y1 := [.int .i64 p]) (y2 := [.int .i64 t]) (r := encI2 ((y1, y2) :: La)) ra
                clear hcell hy
                go_wp2_with fail
                go_roundw
                case rel => exact ⟨t, (y1, y2) :: La, Lb, _, _, _, Ab, nb, cb, rfl, hBa.set_ 0 _, hBb.far (p := ⟨w5.heap.size, 0, none⟩) (by simp) _, hr2.setCell (p := ⟨w5.heap.size, 0, none⟩) (fun q hq => by cases hq; simp only; omega) _, rb.setCell (p := ⟨w5.heap.size, 0, none⟩) (fun q hq => by have := HoB.out q hq; simp only; omega) _, Lib.hid (by have := HA.out; simp only [List.length_cons] at this ⊢; omega), HBn, Lib.hid (fun q hq => by cases hq; exact hg8), HoB, HT', htw.setCell (p := ⟨w5.heap.size, 0, none⟩) (.inl rfl) _, by omega, by omega, by omega, hc4, hc5, hc6⟩
                case measure => simp [intOf]; omega
            | right h1 h2 h3 h5 h4 =>
              rename_i t Lb
              have HT' := Lib.hid h4
              obtain ⟨g, off, rfl, hcell⟩ := rb (by simp [encI2])
              have d0 := hcell 0 0 [.int .i64 p] (.int .i64 p) rfl rfl
              have d1 := hcell 1 0 [.int .i64 t] (.int .i64 t) rfl rfl
              simp only [Nat.zero_mul, Nat.one_mul, Nat.add_zero] at d0 d1
              have hg8 := HoB.out _ rfl
              have hnb2 : 2 ≤ nb := by have := HBn.out; simp at this; omega
              simp only at hg8
              have hpt : (p : Int) < (t : Int) := by omega
              cases La with
              | nil =>
                obtain rfl : na = 0 := by have := HA.out; simpa using this.symm
                cases Lb with
                | nil =>
                  obtain rfl : nb = 2 := by have := HBn.out; simp at this; omega
                  by_cases hcc : cb = 2
                  · subst hcc
                    go_wp2_with fail
                    go_roundw
                    case rel => exact ⟨t, _, [], _, _, ca, _, _, _, rfl, hBa.far (p := ⟨w5.heap.size + 1, 0, none⟩) (by simp) _, hBb.set_ 0 _, ra.setCell (p := ⟨w5.heap.size + 1, 0, none⟩) (fun q hq => by have := HoA.out q hq; simp only; omega) _, Rd.nil_ _ _ _, HA, Lib.hid rfl, HoA, Lib.hid (fun q hq => by cases hq; exact hg8), HT', htw.setCell (p := ⟨w5.heap.size + 1, 0, none⟩) (.inr rfl) _, hc1, hc2, hc3, by omega, by omega, by omega⟩
                    case measure => simp [intOf]; omega
                  · go_wp2_with fail
                    go_roundw
                    case rel => exact ⟨t, _, [], _, _, ca, _, _, _, rfl, hBa.far (p := ⟨w5.heap.size + 1, 0, none⟩) (by simp) _, hBb.set_ 0 _, ra.setCell (p := ⟨w5.heap.size + 1, 0, none⟩) (fun q hq => by have := HoA.out q hq; simp only; omega) _, Rd.nil_ _ _ _, HA, Lib.hid rfl, HoA, Lib.hid (fun q hq => by cases hq; exact hg8), HT', htw.setCell (p := ⟨w5.heap.size + 1, 0, none⟩) (.inr rfl) _, hc1, hc2, hc3, by omega, by omega, by omega⟩
                    case measure => simp [intOf]; omega
                | cons y Lb =>
                  obtain ⟨y1, y2⟩ := y
                  have hn4 : 4 ≤ nb := by have := HBn.out; simp at this; omega
                  have d2 := hcell 2 0 [.int .i64 y1] (.int .i64 y1) rfl rfl
                  simp only [Nat.add_zero] at d2
                  have hy := h3 (y1, y2) rfl
                  have hyt : ((y1 : Int) == (t : Int)) = false := by rw [beq_eq_false_iff_ne]; simp only at hy; omega
                  have d2' : (wr.setCell ⟨w5.heap.size + 1, 0, none⟩ (.slice (some ⟨g, off + 2, none⟩) (nb - 2) (cb - 2))).cell? ⟨g, off + 2, none⟩ = some (.int .i64 y1) := by
                    rw [World.cell?_setCell_other _ _ _ _ (by intro e; injection e with e; omega)]; exact d2
                  have hcc : ¬ cb = 2 := by omega
                  have hr2 := Rd.tail2 (y1 := [.int .i64 p]) (y2 := [.int .i64 t]) (r := encI2 ((y1, y2) :: Lb)) rb
                  clear hcell hy
                  go_wp2_with fail
                  go_roundw
                  case rel => exact ⟨t, _, (y1, y2) :: Lb, _, _, ca, _, _, _, rfl, hBa.far (p := ⟨w5.heap.size + 1, 0, none⟩) (by simp) _, hBb.set_ 0 _, ra.setCell (p := ⟨w5.heap.size + 1, 0, none⟩) (fun q hq => by have := HoA.out q hq; simp only; omega) _, hr2.setCell (p := ⟨w5.heap.size + 1, 0, none⟩) (fun q hq => by cases hq; simp only; omega) _, HA, Lib.hid (by have := HBn.out; simp only [List.length_cons] at this ⊢; omega), HoA, Lib.hid (fun q hq => by cases hq; exact hg8), HT', htw.setCell (p := ⟨w5.heap.size + 1, 0, none⟩) (.inr rfl) _, hc1, hc2, hc3, by omega, by omega, by omega⟩
                  case measure => simp [intOf]; omega
              | cons x La =>
                obtain ⟨x1, x2⟩ := x
                obtain ⟨ga, offa, rfl, hca⟩ := ra (by simp [encI2])
                have a0 := hca 0 0 [.int .i64 x1] (.int .i64 x1) rfl rfl
                simp only [Nat.zero_mul, Nat.add_zero] at a0
                have hna2 : 2 ≤ na := by have := HA.out; simp at this; omega
                have hx1 := h5 (x1, x2) rfl
                have hxp : ((x1 : Int) == (p : Int)) = false := by rw [beq_eq_false_iff_ne]; simp only at hx1; omega
                clear hca
                cases Lb with
                | nil =>
                  obtain rfl : nb = 2 := by have := HBn.out; simp at this; omega
                  by_cases hcc : cb = 2
                  · subst hcc
                    go_wp2_with fail
                    go_roundw
                    case rel => exact ⟨t, _, [], _, _, ca, _, _, _, rfl, hBa.far (p := ⟨w5.heap.size + 1, 0, none⟩) (by simp) _, hBb.set_ 0 _, ra.setCell (p := ⟨w5.heap.size + 1, 0, none⟩) (fun q hq => by have := HoA.out q hq; simp only; omega) _, Rd.nil_ _ _ _, HA, Lib.hid rfl, HoA, Lib.hid (fun q hq => by cases hq; exact hg8), HT', htw.setCell (p := ⟨w5.heap.size + 1, 0, none⟩) (.inr rfl) _, hc1, hc2, hc3, by omega, by omega, by omega⟩
                    case measure => simp [intOf]; omega
                  · go_wp2_with fail
                    go_roundw
                    case rel => exact ⟨t, _, [], _, _, ca, _, _, _, rfl, hBa.far (p := ⟨w5.heap.size + 1, 0, none⟩) (by simp) _, hBb.set_ 0 _, ra.setCell (p := ⟨w5.heap.size + 1, 0, none⟩) (fun q hq => by have := HoA.out q hq; simp only; omega) _, Rd.nil_ _ _ _, HA, Lib.hid rfl, HoA, Lib.hid (fun q hq => by cases hq; exact hg8), HT', htw.setCell (p := ⟨w5.heap.size + 1, 0, none⟩) (.inr rfl) _, hc1, hc2, hc3, by omega, by omega, by omega⟩
                    case measure => simp [intOf]; omega
                | cons y Lb =>
                  obtain ⟨y1, y2⟩ := y
                  have hn4 : 4 ≤ nb := by have := HBn.out; simp at this; omega
                  have d2 := hcell 2 0 [.int .i64 y1] (.int .i64 y1) rfl rfl
                  simp only [Nat.add_zero] at d2
                  have hy := h3 (y1, y2) rfl
                  have hyt : ((y1 : Int) == (t : Int)) = false := by rw [beq_eq_false_iff_ne]; simp only at hy; omega
                  have d2' : (wr.setCell ⟨w5.heap.size + 1, 0, none⟩ (.slice (some ⟨g, off + 2, none⟩) (nb - 2) (cb - 2))).cell? ⟨g, off + 2, none⟩ = some (.int .i64 y1) := by
                    rw [World.cell?_setCell_other _ _ _ _ (by intro e; injection e with e; omega)]; exact d2
                  have hcc : ¬ cb = 2 := by omega
                  have hr2 := Rd.tail2 (y1 := [.int .i64 p]) (y2 := [.int .i64 t]) (r := encI2 ((y1, y2) :: Lb)) rb
                  clear hcell hy
                  go_wp2_with fail
                  go_roundw
                  case rel => exact ⟨t, _, (y1, y2) :: Lb, _, _, ca, _, _, _, rfl, hBa.far (p := ⟨w5.heap.size + 1, 0, none⟩) (by simp) _, hBb.set_ 0 _, ra.setCell (p := ⟨w5.heap.size + 1, 0, none⟩) (fun q hq => by have := HoA.out q hq; simp only; omega) _, hr2.setCell (p := ⟨w5.heap.size + 1, 0, none⟩) (fun q hq => by cases hq; simp only; omega) _, HA, Lib.hid (by have := HBn.out; simp only [List.length_cons] at this ⊢; omega), HoA, Lib.hid (fun q hq => by cases hq; exact hg8), HT', htw.setCell (p := ⟨w5.heap.size + 1, 0, none⟩) (.inr rfl) _, hc1, hc2, hc3, by omega, by omega, by omega⟩
                  case measure => simp [intOf]; omega
end Go.Proofs.YteelepiaegpkhaaDoor
