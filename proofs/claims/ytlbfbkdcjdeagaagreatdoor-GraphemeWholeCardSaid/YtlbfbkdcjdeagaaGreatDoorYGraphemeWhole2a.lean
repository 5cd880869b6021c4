/-
  Several texts in one, in their build order: Gd, Gh.
-/
import Derived.Deep.CutRange
import Derived.Test.YtlbfbkdcjdeagaaGreatDoorYGraphemeWholeGb
import Derived.Test.YtlbfbkdcjdeagaaGreatDoorYGraphemeWhole0a
import Derived.Test.YtlbfbkdcjdeagaaGreatDoorZShelf
import Derived.Test.YtlbfbkdcjdeagaaGreatDoorYGraphemeWhole0b
import Derived.Test.YtlbfbkdcjdeagaaGreatDoorZRdr
import Derived.Test.YtlbfbkdcjdeagaaGreatDoorZ0a
/-
  grapheme: Count, Next, Is, Place, Cut, walked.
-/
namespace Go.Proofs.YtlbfbkdcjdeagaaGreatDoor
open Go.RowKit

theorem infoB8 : (Tryz.prog.info? 5).map (fun i => (i.zero, i.size, i.bytes)) = some (some (.int .u8 0), 1, 1) := by kernel_rfl
set_option maxRecDepth 100000 in
set_option maxHeartbeats 2000000 in
theorem gCount_any (s : ByteArray) (w : World) (hE : Env w) (hs : s.size ≤ 1000000) :
    Calls Tryz.prog 40 #[.string s] w fun e w' => e = .returned (.int .i64 (countG s : Nat)) ∧ Below w.heap.size w w' := by
  have HB := Lib.hid (gBounds_any s w hE hs)
  have HL := Lib.hid (bounds_len s)
  clear hE
  go_enter Tryz.func40, Tryz.ntmps40
  go_wp2_with fail
  refine HB.out.mono ?_
  rintro e w1 ⟨A, n, c, rfl, ho, hb1⟩
  have hn : (boundsG gG s).length = n := by have := ho.len; simpa using this
  have HV : Hid (countG s = n - 1) := Lib.hid (by unfold countG; rw [hn])
  have hz : n ≤ 1000001 := by have := HL.out; omega
  clear hn ho
  cases n with
  | zero =>
    go_wp2
    go_ret
    exact ⟨by rw [HV.out]; rfl, hb1⟩
  | succ k =>
    have HV2 : Hid (countG s = k) := Lib.hid (by rw [HV.out]; rfl)
    have e1 : ((k + 1 : Nat) : Int) - 1 = (k : Int) := by omega
    have e2 : IntKind.i64.wrap (((k + 1 : Nat) : Int) - 1) = (k : Int) := by rw [e1]; exact IntWalk.i64_in _ (by omega)
    have e3 : max (k : Int) 0 = (k : Int) := by omega
    go_wp2
    go_ret
    exact ⟨by rw [HV2.out]; rfl, hb1⟩
theorem search_own {w : World} {base : Nat} {A : Option Addr} {n c : Nat} {L : List Nat} (x : Int) (ho : Own w base 3 1 A n c (L.map encN)) (hr : L.Pairwise (· < ·)) (hz : n ≤ 4000000) :
    Calls Tryz.prog 80 #[.slice A n c, .int .i64 x] w fun e w' => (∃ k : Int, e = .returned (.tuple #[.int .i64 k, .bool ((L.map fun (a : Nat) => (a : Int)).contains x)])) ∧ Below w.heap.size w w' := by
  have hn : L.length = n := by have := ho.len; simpa using this
  have rd := ho.rd (by decide)
  cases L with
  | nil =>
    obtain rfl : 0 = n := hn
    refine (Tryz.slices_BinarySearch_int_empty A c x w).mono ?_
    rintro e w' ⟨rfl, rfl⟩
    exact ⟨⟨0, rfl⟩, Below.refl _ _⟩
  | cons a r =>
    obtain ⟨b, off, rfl, hc⟩ := rd (by simp)
    refine (Tryz.slices_BinarySearch_int b off n c ((a :: r).map fun (a : Nat) => (a : Int)) x w (by simp at hn ⊢; omega) (by omega) (fun j hj => ?_) ?_).mono ?_
    · rw [List.length_map] at hj
      have hx := List.getElem?_eq_getElem hj
      have := hc j 0 (encN (a :: r)[j]) (.int .i64 ((a :: r)[j] : Nat)) (by rw [List.getElem?_map, hx]; rfl) rfl
      rw [List.getD_eq_getElem?_getD, List.getElem?_map, hx]
      simpa using this
    · refine List.Pairwise.sublist (List.take_sublist _ _) ?_
      rw [List.pairwise_map]
      exact hr.imp fun h => by omega
    · rintro e w' ⟨rfl, q, rfl⟩
      rw [List.take_of_length_le (by rw [List.length_map]; omega)]
      exact ⟨⟨_, rfl⟩, below_refl_drewN w q⟩
set_option maxRecDepth 100000 in
set_option maxHeartbeats 2000000 in
theorem gIs_any (s : ByteArray) (x : Int) (w : World) (hE : Env w) (hs : s.size ≤ 1000000) :
    Calls Tryz.prog 43 #[.string s, .int .i64 x] w fun e w' => e = .returned (.bool (isG s x)) ∧ Below w.heap.size w w' := by
  have HB := Lib.hid (gBounds_any s w hE hs)
  have HL := Lib.hid (bounds_len s)
  clear hE
  go_enter Tryz.func43, Tryz.ntmps43
  go_wp2_with fail
  refine HB.out.mono ?_
  rintro e w1 ⟨A, n, c, rfl, ho, hb1⟩
  have hn : (boundsG gG s).length = n := by have := ho.len; simpa using this
  have HS := Lib.hid (search_own x ho (bounds_rise gG s) (by have := HL.out; omega))
  clear hn ho
  obtain ⟨v, HV⟩ : ∃ v, Hid (isG s x = v) := ⟨_, Lib.hid rfl⟩
  have HV2 := HV.out
  unfold isG at HV2
  rw [HV2] at HS
  clear HV2
  go_wp2_with fail
  refine HS.out.mono ?_
  rintro e w2 ⟨⟨k, rfl⟩, hb2⟩
  go_wp2
  go_ret
  exact ⟨by rw [HV.out]; rfl, below_two hb1 hb2⟩
set_option maxRecDepth 100000 in
set_option maxHeartbeats 2000000 in
theorem gNext_any (s : ByteArray) (x : Int) (w : World) (hE : Env w) (hs : s.size ≤ 1000000) :
    Calls Tryz.prog 77 #[.string s, .int .i64 x] w fun e w' => e = .returned (.int .i64 (nextG s x : Nat)) ∧ Below w.heap.size w w' := by
  have HB := Lib.hid (gBounds_any s w hE hs)
  have HL := Lib.hid (bounds_len s)
  clear hE
  go_enter Tryz.func77, Tryz.ntmps77
  go_wp2_with fail
  refine HB.out.mono ?_
  rintro e w1 ⟨A, n, c, rfl, ho, hb1⟩
  have hn : (boundsG gG s).length = n := by have := ho.len; simpa using this
  have Hn := Lib.hid hn
  have hz : n ≤ 1000001 := by have := HL.out; omega
  have rd := ho.rd (by decide)
  clear hn ho
  go_wp2_with fail
  go_loopw [10] (fun v wr => ∃ i : Nat, v = .int .i64 i ∧ i ≤ n ∧ wr = w1 ∧ Hid (nextG s x = (((boundsG gG s).drop i).find? fun (a : Nat) => decide (x < (a : Int))).getD s.size)) (fun v _ => n - (intOf v).toNat)
  case atStart => exact ⟨0, rfl, by omega, rfl, Lib.hid rfl⟩
  case round =>
    obtain ⟨i, rfl, hi, rfl, HN⟩ := hrel
    by_cases hlt : i < n
    · obtain ⟨y, Hy⟩ : ∃ y, Hid ((boundsG gG s)[i]? = some y) := ⟨_, Lib.hid (List.getElem?_eq_getElem (by have := Hn.out; omega))⟩
      obtain ⟨b, off, rfl, cy⟩ := rd.atP' Hy.out
      have hdr : (boundsG gG s).drop i = y :: (boundsG gG s).drop (i + 1) := by rw [List.drop_eq_getElem_cons (by have := Hn.out; omega)]; rw [(List.getElem?_eq_some_iff.1 Hy.out).2]
      have HN2 := HN.out
      rw [hdr, List.find?_cons] at HN2
      clear hdr HN
      cases hq : decide (x < (y : Int)) with
      | true =>
        rw [hq] at HN2
        have HN3 : Hid (nextG s x = y) := Lib.hid HN2
        have hq2 : ((y : Int) > x) = True := eq_true (of_decide_eq_true hq)
        clear HN2
        go_wp2
        go_ret
        exact ⟨by rw [HN3.out]; rfl, hb1⟩
      | false =>
        rw [hq] at HN2
        have HN3 := Lib.hid HN2
        clear HN2
        go_wp2
        go_roundw
        case rel => exact ⟨i + 1, by go_num, by omega, by first | rfl | trivial, HN3⟩
        case measure => simp [intOf]; omega
    · obtain rfl : i = n := by omega
      have HN2 : Hid (nextG s x = s.size) := Lib.hid (by rw [HN.out, List.drop_eq_nil_of_le (by have := Hn.out; omega)]; rfl)
      go_wp2
      go_ret
      exact ⟨by rw [HN2.out]; rfl, hb1⟩
set_option maxRecDepth 100000 in
set_option maxHeartbeats 2000000 in
theorem gPlace_any (s : ByteArray) (x : Int) (w : World) (hE : Env w) (hs : s.size ≤ 1000000) :
    Calls Tryz.prog 82 #[.string s, .int .i64 x] w fun e w' => e = .returned (.int .i64 (placeG s x : Nat)) ∧ Below w.heap.size w w' := by
  by_cases h0 : x < 0
  · have HV : Hid (placeG s x = 0) := Lib.hid (by unfold placeG; rw [if_pos h0])
    clear hE
    go_enter Tryz.func82, Tryz.ntmps82
    go_wp2
    go_ret
    exact ⟨by rw [HV.out]; rfl, Below.refl _ _⟩
  · have HB := Lib.hid (gBounds_any s w hE hs)
    have HL := Lib.hid (bounds_len s)
    obtain ⟨k, rfl⟩ : ∃ k : Nat, x = k := ⟨x.toNat, by omega⟩
    have HV : Hid (placeG s k = (boundsG gG s).getD k s.size) := Lib.hid (by unfold placeG; rw [if_neg h0]; rfl)
    clear hE h0
    go_enter Tryz.func82, Tryz.ntmps82
    go_wp2_with fail
    refine HB.out.mono ?_
    rintro e w1 ⟨A, n, c, rfl, ho, hb1⟩
    have hn : (boundsG gG s).length = n := by have := ho.len; simpa using this
    have Hn := Lib.hid hn
    have hz : n ≤ 1000001 := by have := HL.out; omega
    have rd := ho.rd (by decide)
    clear hn ho
    by_cases hlt : k < n
    · obtain ⟨y, Hy⟩ : ∃ y, Hid ((boundsG gG s)[k]? = some y) := ⟨_, Lib.hid (List.getElem?_eq_getElem (by have := Hn.out; omega))⟩
      obtain ⟨b, off, rfl, cy⟩ := rd.atP' Hy.out
      have HV2 : Hid (placeG s k = y) := Lib.hid (by rw [HV.out, List.getD_eq_getElem?_getD, Hy.out]; rfl)
      go_wp2
      go_ret
      exact ⟨by rw [HV2.out]; rfl, hb1⟩
    · have HV2 : Hid (placeG s k = s.size) := Lib.hid (by rw [HV.out, List.getD_eq_getElem?_getD, List.getElem?_eq_none (by have := Hn.out; omega)]; rfl)
      go_wp2
      go_ret
      exact ⟨by rw [HV2.out]; rfl, hb1⟩
set_option maxRecDepth 100000 in
set_option maxHeartbeats 2000000 in
theorem gCut_any (s : ByteArray) (x : Int) (w : World) (hE : Env w) (hs : s.size ≤ 1000000) :
    Calls Tryz.prog 45 #[.string s, .int .i64 x] w fun e w' => e = .returned (.tuple #[.string (s.extract 0 (placeG s x)), .string (s.extract (placeG s x) s.size)]) ∧ Below w.heap.size w w' := by
  have HP := Lib.hid (gPlace_any s x w hE hs)
  have hle := placeG_le s x
  clear hE
  obtain ⟨z, Hz⟩ : ∃ z, placeG s x = z := ⟨_, rfl⟩
  rw [Hz] at HP hle ⊢
  clear Hz
  have h1 : (0 : Int) ≤ (z : Int) := by omega
  have h2 : (z : Int) ≤ (s.size : Int) := by omega
  go_enter Tryz.func45, Tryz.ntmps45
  go_wp2_with fail
  refine HP.out.mono ?_
  rintro e w1 ⟨rfl, hb1⟩
  go_wp2_with fail
  go_region
  go_wp2
  go_ret2
  exact ⟨rfl, hb1.drew⟩
end Go.Proofs.YtlbfbkdcjdeagaaGreatDoor

/-
  utf: isRune, Encode, Text, Valid, Is, On; the document's Places, walked.
-/
namespace Go.Proofs.YtlbfbkdcjdeagaaGreatDoor
open Go.RowKit

theorem validGo_iff (s : ByteArray) : ∀ (f a : Nat), Lib.validGoD f (s.data.toList.drop a) = true ↔ ∀ x ∈ runesGo s f a, x.1 ≠ 65533 ∨ x.2.2 - x.2.1 = 3
  | 0, a => by simp [Lib.validGoD, runesGo]
  | f + 1, a => by
    have hsz : s.data.toList.length = s.size := by rw [Array.length_toList]; rfl
    unfold Lib.validGoD runesGo
    rw [Lib.decodeL_drop, List.drop_drop]
    by_cases ha : a < s.size
    · have hne : s.data.toList.drop a ≠ [] := fun e => by
        have := congrArg List.length e
        rw [List.length_drop, List.length_nil] at this
        omega
      rw [if_neg hne, if_pos ha]
      have ih := validGo_iff s f (a + (Utf8.decode s a).2)
      obtain ⟨⟨R, W⟩, hD⟩ : ∃ d, Utf8.decode s a = d := ⟨_, rfl⟩
      rw [hD] at ih ⊢
      simp only at ih ⊢
      by_cases hb : R = 65533 ∧ W = 1
      · rw [if_pos hb]
        refine ⟨fun h => (by cases h), fun h => ?_⟩
        rcases h _ (List.mem_cons_self) with h | h
        · exact absurd hb.1 h
        · simp only at h; omega
      · rw [if_neg hb, ih]
        refine ⟨fun h x hx => ?_, fun h x hx => h x (List.mem_cons_of_mem _ hx)⟩
        rcases List.mem_cons.1 hx with rfl | hx
        · simp only
          rw [Lib.decode_N] at hD
          rcases Classical.em (R ≠ 65533 ∨ W = 3) with h | h
          · rcases h with h | h
            · exact .inl h
            · exact .inr (by omega)
          · exact absurd (decN_bad hD h) hb
        · exact h x hx
    · have he : s.data.toList.drop a = [] := List.drop_eq_nil_of_le (by omega)
      rw [if_pos he, if_neg ha]
      simp
theorem valid_whole (s : ByteArray) : Lib.validD s.data.toList = true ↔ WholeP s := by
  have h := validGo_iff s s.size 0
  unfold Lib.validD WholeP runesP
  rw [List.drop_zero] at h
  rw [show s.data.toList.length = s.size by rw [Array.length_toList]; rfl]
  exact h
set_option maxRecDepth 100000 in
theorem uValid_any (s : ByteArray) (w : World) (hT : Tabs w) (hs : s.size ≤ 1000000) : Calls Tryz.prog 47 #[.string s] w fun e w' => e = .returned (.bool (Lib.validD s.data.toList)) ∧ Below w.heap.size w w' := by
  have HV : Hid (Calls Tryz.prog 84 #[.string s] w fun e w' => e = .returned (.bool (Lib.validD s.data.toList)) ∧ Below w.heap.size w w') := Lib.hid (Any.utf8_ValidString Tryz.lays196 s w (by omega) hT)
  go_enter Tryz.func47, Tryz.ntmps47
  go_wp2_with fail
  refine HV.out.mono ?_
  rintro e w1 ⟨rfl, hb⟩
  go_wp2
  go_ret
  exact ⟨rfl, hb⟩
set_option maxRecDepth 100000 in
set_option maxHeartbeats 1000000 in
theorem uIsRune_any (r : Int) (w : World) : Calls Tryz.prog 121 #[.int .i32 r] w fun e w' => e = .returned (.bool (runeB r)) ∧ w' = w := by
  obtain ⟨v, HV⟩ : ∃ v, Hid (runeB r = v) := ⟨_, Lib.hid rfl⟩
  have key : ∀ q : Bool, (0 ≤ r ∧ r ≤ 1114111 ∧ (r < 55296 ∨ 57343 < r)) = (q = true) → q = v := fun q hq => by
    have h := HV.out
    unfold runeB at h
    rw [← h]
    cases q with
    | true =>
      obtain ⟨h1, h2, h3⟩ := of_eq_true (hq.trans (eq_self true))
      simp [h1, h2, h3]
    | false =>
      have h1 : ¬ (0 ≤ r ∧ r ≤ 1114111 ∧ (r < 55296 ∨ 57343 < r)) := fun h => by have := hq ▸ h; cases this
      symm
      rw [Bool.eq_false_iff]
      intro h2
      apply h1
      simpa [and_assoc] using h2
  have HK := Lib.hid key
  clear key
  rw [HV.out]
  clear HV
  by_cases h0 : 0 ≤ r
  · by_cases h1 : r ≤ 1114111
    · by_cases h2 : r < 55296
      · have hv := HK.out true (by simp [h0, h1, h2])
        subst hv
        go_enter Tryz.func121, Tryz.ntmps121
        go_wp2
        go_ret
        exact ⟨rfl, rfl⟩
      · by_cases h3 : 57343 < r
        · have hv := HK.out true (by simp [h0, h1, h3])
          subst hv
          go_enter Tryz.func121, Tryz.ntmps121
          go_wp2
          go_ret
          exact ⟨rfl, rfl⟩
        · have hv := HK.out false (by simp; omega)
          subst hv
          go_enter Tryz.func121, Tryz.ntmps121
          go_wp2
          go_ret
          exact ⟨rfl, rfl⟩
    · have hv := HK.out false (by simp; omega)
      subst hv
      go_enter Tryz.func121, Tryz.ntmps121
      go_wp2
      go_ret
      exact ⟨rfl, rfl⟩
  · have hv := HK.out false (by simp; omega)
    subst hv
    go_enter Tryz.func121, Tryz.ntmps121
    go_wp2
    go_ret
    exact ⟨rfl, rfl⟩
set_option maxRecDepth 100000 in
theorem uEncode_any (r : Int) (w : World) : Calls Tryz.prog 85 #[.int .i32 r] w fun e w' => e = .returned (.string (Utf8.encode (if runeB r then r else 65533))) ∧ w' = w := by
  have HR := Lib.hid (uIsRune_any r w)
  obtain ⟨q, Hq⟩ : ∃ q, Hid (runeB r = q) := ⟨_, Lib.hid rfl⟩
  rw [Hq.out] at HR ⊢
  go_enter Tryz.func85, Tryz.ntmps85
  go_wp2_with fail
  refine HR.out.mono ?_
  rintro e w1 ⟨rfl, rfl⟩
  cases q with
  | true =>
    go_wp2
    go_ret
    exact ⟨rfl, rfl⟩
  | false =>
    go_wp2
    go_ret
    exact ⟨rfl, rfl⟩
set_option maxRecDepth 100000 in
set_option maxHeartbeats 2000000 in
theorem uText_any (A : Option Addr) (n c : Nat) (l : List Int) (w : World) (hA : Rd w 1 A (l.map fun r => [.int .i32 r])) (hl : l.length = n) (hn : n ≤ 100000) :
    Calls Tryz.prog 48 #[.slice A n c] w fun e w' => e = .returned (.string (bytesOf (textU l))) ∧ Below w.heap.size w w' := by
  obtain ⟨i0, hi0, hz0, hz1, hz2⟩ := info_parts infoB8
  have Hl := Lib.hid hl
  have HE := Lib.hid (fun r V => uEncode_any r V)
  clear hl
  go_enter Tryz.func48, Tryz.ntmps48
  go_wp2_with fail
  go_loopw [3, 8] (fun v u wr => ∃ i : Nat, u = .int .i64 i ∧ i ≤ n ∧ OwnB wr w.heap.size v (textU (l.take i)) ∧ Below w.heap.size w wr) (fun _ u _ => n - (intOf u).toNat)
  case atStart => exact ⟨0, rfl, by omega, ⟨rfl, .inl ⟨rfl, rfl⟩⟩, Below.refl _ _⟩
  case round =>
    obtain ⟨i, rfl, hi, ho, hb⟩ := hrel
    by_cases hlt : i < n
    · obtain ⟨r, Hr⟩ : ∃ r, Hid (l[i]? = some r) := ⟨_, Lib.hid (List.getElem?_eq_getElem (by have := Hl.out; omega))⟩
      have hAr := hA.below hb
      obtain ⟨b, off, rfl, hcs⟩ := hAr (by intro e; have := congrArg List.length e; rw [List.length_map, Hl.out] at this; simp at this; omega)
      have cr := hcs i 0 [.int .i32 r] (.int .i32 r) (by rw [List.getElem?_map, Hr.out]; rfl) rfl
      simp only [Nat.mul_one, Nat.add_zero] at cr
      have hlen : (textU (l.take i)).length ≤ 4 * i := by
        have key : ∀ (L : List Int), (textU L).length ≤ 4 * L.length := fun L => by
          induction L with
          | nil => simp [textU]
          | cons a t ih => have := encR8_len a; unfold textU at ih ⊢; rw [List.flatMap_cons, List.length_append, List.length_cons]; omega
        have := key (l.take i)
        rw [List.length_take] at this
        omega
      have hel := encR8_len r
      have hes : (Utf8.encode (if runeB r then r else 65533)).size = (encR8 r).length := by unfold encR8; rw [Array.length_toList]; rfl
      have hT : textU (l.take (i + 1)) = textU (l.take i) ++ encR8 r := by
        rw [List.take_add_one, Hr.out]; unfold textU; rw [Option.toList_some, List.flatMap_append]; simp
      have hbz := hb.size
      clear hcs
      go_wp2_with fail
      refine (HE.out _ _).mono ?_
      rintro e w2 ⟨rfl, rfl⟩
      go_wp2_with (at_builtin; go_must (refine Lib.wpList_append_own_string _ rfl (.tmp 12) (.tmp 14) 96 9 rfl w.heap.size 5 i0 Tryz.underlying96 Tryz.underlying9 hi0 hz0 hz1 hz2 _ _ _ rfl ho (Utf8.encode (if runeB r then r else 65533)) rfl (by unfold maxLen; omega) (by omega) (by omega) ?_); intro v3 w3 ho3 hg3 _; have ho4 := OwnB.str ho3 rfl; have hb4 := below_ownB hb ho hg3 (by omega); clear ho3 hg3)
      go_roundw
      case rel => exact ⟨i + 1, by go_num, by omega, by rw [hT]; exact ho4, hb4⟩
      case measure => simp [intOf]; omega
    · obtain rfl : i = n := by omega
      rw [List.take_of_length_le (by have := Hl.out; omega)] at ho
      have hcv := ho.convert
      go_wp2
      go_ret
      exact ⟨rfl, hb⟩
/- Edges. -/
def edgeT (s : ByteArray) (z b : Nat) : Bool := !(decide (b ≤ z) && decide (b < (Utf8.decode s (z - b)).2))
def edgeK (s : ByteArray) (z : Nat) : Nat → Nat → Bool
  | _, 0 => true
  | b, k + 1 => edgeT s z b && edgeK s z (b + 1) k
theorem edgeB_K (s : ByteArray) (z : Nat) : edgeB s z = edgeK s z 1 3 := by simp [edgeB, edgeK, edgeT]
theorem edgeK_far {s : ByteArray} {z : Nat} : ∀ (k b : Nat), z < b → edgeK s z b k = true
  | 0, _, _ => rfl
  | k + 1, b, h => by
    unfold edgeK
    rw [edgeK_far k (b + 1) (by omega)]
    unfold edgeT
    simp [show ¬ b ≤ z by omega]
set_option maxRecDepth 100000 in
set_option maxHeartbeats 2000000 in
theorem uIs_any (s : ByteArray) (z : Nat) (w : World) (hT : Tabs w) (hz : z ≤ s.size) (hs : s.size ≤ 1000000) :
    Calls Tryz.prog 81 #[.string s, .int .i64 (z : Nat)] w fun e w' => e = .returned (.bool (edgeB s z)) ∧ Below w.heap.size w w' := by
  have h1 : ((z : Int) < 0) = False := eq_false (by omega)
  have h2 : ((z : Int) > (s.size : Int)) = False := eq_false (by omega)
  go_enter Tryz.func81, Tryz.ntmps81
  go_wp2_with fail
  clear h1 h2
  go_loopw [5] (fun v wr => ∃ b k : Nat, v = .int .i64 b ∧ b + k = 4 ∧ 1 ≤ b ∧ Hid (edgeB s z = edgeK s z b k) ∧ Below w.heap.size w wr) (fun v _ => 4 - (intOf v).toNat)
  case atStart => exact ⟨1, 3, rfl, rfl, by omega, Lib.hid (edgeB_K s z), Below.refl _ _⟩
  case round =>
    obtain ⟨b, k, rfl, hbk, hb1, HK, hbw⟩ := hrel
    cases k with
    | zero =>
      obtain rfl : b = 4 := by omega
      have HV : Hid (edgeB s z = true) := Lib.hid HK.out
      go_wp2
      go_ret
      exact ⟨by rw [HV.out]; rfl, hbw⟩
    | succ k =>
      have hb4 : b < 4 := by omega
      by_cases hbz : b ≤ z
      · obtain ⟨y, hyb⟩ : ∃ y, y + b = z := ⟨z - b, by omega⟩
        have e1 : (z : Int) - (b : Int) = (y : Int) := by omega
        have Hyb : Hid (z - b = y) := Lib.hid (by omega)
        have hy0 : (0 : Int) ≤ (y : Int) := by omega
        have hys : (y : Int) ≤ (s.size : Int) := by omega
        have HD := Lib.hid (lDecode_any s y _ (hT.below hbw) (by omega))
        obtain ⟨⟨R, W⟩, hD⟩ : ∃ d, Utf8.decode s y = d := ⟨_, rfl⟩
        have hrA : runeAt s y = (R, W) := by unfold runeAt; rw [if_pos (by omega)]; exact hD
        have hbd := dec_bd s y (by omega)
        rw [hD] at hbd
        simp only at hbd
        rw [hrA] at HD
        have HK2 := HK.out
        unfold edgeK edgeT at HK2
        rw [Hyb.out, hD] at HK2
        simp only at HK2
        have HK3 := Lib.hid HK2
        clear HK HK2 hD hrA hyb
        go_wp2_with fail
        refine HD.out.mono ?_
        rintro e w2 ⟨rfl, hb2⟩
        by_cases hw : b < W
        · have HV : Hid (edgeB s z = false) := Lib.hid (by rw [HK3.out]; simp [hw, hbz])
          obtain ⟨q, hq⟩ : ∃ q, ((R : Int) == 65533) = q := ⟨_, rfl⟩
          have hw1 : ((W : Int) == 1) = false := by simp; omega
          cases q with
          | true =>
            go_wp2
            go_ret
            exact ⟨by rw [HV.out]; rfl, below_two hbw hb2⟩
          | false =>
            go_wp2
            go_ret
            exact ⟨by rw [HV.out]; rfl, below_two hbw hb2⟩
        · have HV : Hid (edgeB s z = edgeK s z (b + 1) k) := Lib.hid (by rw [HK3.out]; simp [hw, hbz])
          go_wp2
          go_roundw
          case rel => exact ⟨b + 1, k, by go_num, by omega, by omega, HV, below_two hbw hb2⟩
          case measure => simp [intOf]; omega
      · have HV : Hid (edgeB s z = true) := Lib.hid (by rw [HK.out]; exact edgeK_far _ _ (by omega))
        go_wp2
        go_ret
        exact ⟨by rw [HV.out]; rfl, hbw⟩
/-- The least edge above a place. -/
def onGo (s : ByteArray) : Nat → Nat → Nat
  | 0, _ => s.size
  | f + 1, z => if z < s.size then (if edgeB s (z + 1) then z + 1 else onGo s f (z + 1)) else s.size
def onP (s : ByteArray) (z : Nat) : Nat := onGo s (s.size - z) z
theorem onP_end {s : ByteArray} {z : Nat} (h : ¬ z < s.size) : onP s z = s.size := by
  unfold onP
  rw [show s.size - z = 0 by omega]; rfl
theorem onP_step {s : ByteArray} {z : Nat} (h : z < s.size) : onP s z = if edgeB s (z + 1) then z + 1 else onP s (z + 1) := by
  unfold onP
  obtain ⟨f, hf⟩ : ∃ f, s.size - z = f + 1 := ⟨s.size - z - 1, by omega⟩
  rw [hf, show s.size - (z + 1) = f by omega, onGo, if_pos h]
theorem onP_next {s : ByteArray} {x : Nat × Nat × Nat} (hx : x ∈ runesP s) : onP s x.2.1 = x.2.2 := by
  have hcon := runesP_contig s
  have hin : x.2.1 < x.2.2 ∧ x.2.2 ≤ s.size ∧ PlaceAt s x.2.2 := place_next hx
  obtain ⟨h1, h2, h3⟩ := hin
  have key : ∀ (d y : Nat), y + d + 1 = x.2.2 → x.2.1 ≤ y → onP s y = x.2.2 := by
    intro d
    induction d with
    | zero =>
      intro y hy _
      rw [onP_step (by omega), show y + 1 = x.2.2 by omega, (edge_iff s h2).2 h3]; rfl
    | succ d ih =>
      intro y hy hle
      rw [onP_step (by omega)]
      have hne : edgeB s (y + 1) = false := by
        cases hq : edgeB s (y + 1) with
        | false => rfl
        | true =>
          rcases (edge_iff s (by omega)).1 hq with h | ⟨u, hu, hu2⟩
          · omega
          · exact absurd ⟨by omega, by omega⟩ (place_gap s _ 0 s.size hcon x hx u hu)
      rw [hne]
      exact ih (y + 1) (by omega) (by omega)
  exact key (x.2.2 - x.2.1 - 1) x.2.1 (by omega) (Nat.le_refl _)
set_option maxRecDepth 100000 in
set_option maxHeartbeats 2000000 in
theorem uOn_any (s : ByteArray) (z : Nat) (w : World) (hT : Tabs w) (hz : z ≤ s.size) (hs : s.size ≤ 1000000) :
    Calls Tryz.prog 44 #[.string s, .int .i64 (z : Nat)] w fun e w' => e = .returned (.int .i64 (onP s z : Nat)) ∧ Below w.heap.size w w' := by
  have h1 : ((z : Int) < 0) = False := eq_false (by omega)
  go_enter Tryz.func44, Tryz.ntmps44
  go_wp2_with fail
  clear h1
  go_loopw [1] (fun v wr => ∃ y : Nat, v = .int .i64 y ∧ y ≤ s.size ∧ Hid (onP s z = onP s y) ∧ Below w.heap.size w wr) (fun v _ => s.size - (intOf v).toNat)
  case atStart => exact ⟨z, rfl, hz, Lib.hid rfl, Below.refl _ _⟩
  case round =>
    obtain ⟨y, rfl, hy, HN, hbw⟩ := hrel
    by_cases hlt : y < s.size
    · have HI : Hid (Calls Tryz.prog 81 #[.string s, .int .i64 ((y : Int) + 1)] wr fun e w' => e = .returned (.bool (edgeB s (y + 1))) ∧ Below wr.heap.size wr w') := Lib.hid (uIs_any s (y + 1) _ (hT.below hbw) (by omega) hs)
      have HN2 := HN.out
      rw [onP_step hlt] at HN2
      obtain ⟨q, Hq⟩ : ∃ q, Hid (edgeB s (y + 1) = q) := ⟨_, Lib.hid rfl⟩
      rw [Hq.out] at HI HN2
      have HN3 := Lib.hid HN2
      clear HN HN2
      go_wp2_with fail
      refine HI.out.mono ?_
      rintro e w2 ⟨rfl, hb2⟩
      cases q with
      | true =>
        have HV : Hid (onP s z = y + 1) := Lib.hid HN3.out
        go_wp2
        go_ret
        exact ⟨by rw [HV.out]; first | rfl | (push_cast; rfl), below_two hbw hb2⟩
      | false =>
        have HV : Hid (onP s z = onP s (y + 1)) := Lib.hid HN3.out
        go_wp2
        go_roundw
        case rel => exact ⟨y + 1, by first | rfl | go_num, by omega, HV, below_two hbw hb2⟩
        case measure => simp [intOf]; omega
    · have HV : Hid (onP s z = s.size) := Lib.hid (by rw [HN.out, onP_end hlt])
      go_wp2
      go_ret
      exact ⟨by rw [HV.out]; rfl, hbw⟩
set_option maxRecDepth 100000 in
set_option maxHeartbeats 2000000 in
theorem zPlaces_same (A B : Option Addr) (n c e : Nat) (l : List Nat) (w : World) (hA : Rd w 1 A (l.map encN)) (hB : Rd w 1 B (l.map encN)) (hl : l.length = n) (hn : n ≤ 4000000) :
    Calls Tryz.prog 75 #[.slice A n c, .slice B n e] w fun e w' => e = .returned (.bool true) ∧ Below w.heap.size w w' := by
  have Hl := Lib.hid hl
  clear hl
  go_enter Tryz.func75, Tryz.ntmps75
  go_wp2
  go_loopw [5] (fun v wr => ∃ i k : Nat, v = .int .i64 i ∧ i ≤ n ∧ wr = w.drewN k) (fun v _ => n - (intOf v).toNat)
  case atStart => exact ⟨0, 0, rfl, by omega, rfl⟩
  case round =>
    obtain ⟨i, k, rfl, hi, rfl⟩ := hrel
    by_cases hlt : i < n
    · obtain ⟨x, Hx⟩ : ∃ x, Hid (l[i]? = some x) := ⟨_, Lib.hid (List.getElem?_eq_getElem (by have := Hl.out; omega))⟩
      obtain ⟨b, off, rfl, h1⟩ := hA.atP' Hx.out
      obtain ⟨b', off', rfl, k1⟩ := hB.atP' Hx.out
      go_wp2_with fail
      go_region
      go_wp2
      go_roundw
      case rel => exact ⟨i + 1, _, by go_num, by omega, by first | rfl | exact World.drewN_drewN _ _ _⟩
      case measure => simp [intOf]; omega
    · go_wp2
      go_ret
      exact ⟨rfl, below_refl_drewN w k⟩
end Go.Proofs.YtlbfbkdcjdeagaaGreatDoor

