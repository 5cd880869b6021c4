/-
  Several texts in one, in their build order: PtK, PtL, TrE.
-/
import Derived.Test.YtdnkignhenkamaaGreatDoorSPtJ
import Derived.Test.YtdnkignhenkamaaGreatDoorS1b
/- -/
namespace Go.Proofs.YtdnkignhenkamaaGreatDoor
open Go.RowKit
theorem form_one {op : Nat} {ks : List Pat} (h : formOk op ks.length = true) (h4 : 4 ≤ op) : ∃ p, ks = [p] := by
  have h1 : ks.length = 1 := by
    unfold formOk at h
    rw [if_neg (by omega), if_neg (by omega)] at h
    simpa using h
  match ks, h1 with
  | [p], _ => exact ⟨p, rfl⟩
theorem jleads_all (cl : List Nat) (C0 : Option Addr) (n c0 : Nat) (hl : cl.length = n) (hn : n ≤ 100000) : ∀ (z : Nat) (p : Pat), sizeP p ≤ z → sizeP p ≤ 2048 → KidLeads cl C0 n c0 p := by
  intro z
  induction z with
  | zero => intro p hz; have := sizeP_pos p; omega
  | succ z ih =>
    intro p hz hs X v w hp hg hC
    obtain ⟨op, cs, ks⟩ := p
    have hg' := hg
    unfold goodP at hg
    rw [Bool.and_eq_true] at hg
    obtain ⟨h1, h2, h3, h4, h5⟩ := node_parts hg.1
    have hzl : sizeL ks ≤ z := by unfold sizeP at hz; omega
    have hsl : sizeL ks ≤ 2047 := by unfold sizeP at hs; omega
    have hk : ∀ p ∈ ks, KidLeads cl C0 n c0 p := fun p hp => by
      obtain ⟨i, hi, e⟩ := List.getElem_of_mem hp
      have h6 := sizeL_at (ks := ks) (i := i) (p := p) (by rw [List.getElem?_eq_getElem hi, e])
      exact ih p (by omega) (by omega)
    have hkl := sizeL_len ks
    have hN : cl.length + 1 = n + 1 := by omega
    have hcz : cs.length ≤ 64 := rises_len h5 h4
    rw [hN]
    rcases (by omega : op = 0 ∨ op = 1 ∨ op = 2 ∨ op = 3 ∨ op = 4 ∨ op = 5 ∨ op = 6) with rfl | rfl | rfl | rfl | rfl | rfl | rfl
    · have e : leadsP cl (.node 0 cs ks) = ownM := by unfold leadsP; rfl
      rw [e]
      exact jleads_empty hn X cs ks v w hp
    · have e : leadsP cl (.node 1 cs ks) = setM cl cs := by unfold leadsP; rfl
      rw [e]
      exact jleads_set hl hn X cs ks v w hp hC (by omega)
    · have e : leadsP cl (.node 2 cs ks) = thenP cl ks ownM := by unfold leadsP; rfl
      rw [e]
      exact jleads_then hl hn X cs ks v w hp hC hk hg.2 (by omega)
    · have e : leadsP cl (.node 3 cs ks) = orP cl ks noneM := by unfold leadsP; rfl
      rw [e]
      exact jleads_or hl hn X cs ks v w hp hC hk hg.2 (by omega)
    · obtain ⟨q, rfl⟩ := form_one h3 (by omega)
      have e : leadsP cl (.node 4 cs [q]) = moreM (n + 1) (leadsP cl q) := by (conv => lhs; unfold leadsP); simp [headP, hN]
      rw [e]
      exact jleads_many hl hn X cs q v w hp hC (hk q (by simp)) (goodL_at hg.2 (i := 0) rfl)
    · obtain ⟨q, rfl⟩ := form_one h3 (by omega)
      have e : leadsP cl (.node 5 cs [q]) = behindM (n + 1) (leadsP cl q) (moreM (n + 1) (leadsP cl q)) := by (conv => lhs; unfold leadsP); simp [headP, hN]
      rw [e]
      exact jleads_some hl hn X cs q v w hp hC (hk q (by simp)) (goodL_at hg.2 (i := 0) rfl)
    · obtain ⟨q, rfl⟩ := form_one h3 (by omega)
      have e : leadsP cl (.node 6 cs [q]) = bothM ownM (leadsP cl q) := by (conv => lhs; unfold leadsP); simp [headP]
      rw [e]
      exact jleads_may hl hn X cs q v w hp hC (hk q (by simp)) (goodL_at hg.2 (i := 0) rfl)
theorem jleads_any (cl : List Nat) (C0 : Option Addr) (n c0 : Nat) (hl : cl.length = n) (hn : n ≤ 100000) (X : Nat → Prop) (p : Pat) (v : Pv) (w : World) (hp : PatX w X p v) (hg : goodP 64 p = true) (hs : sizeP p ≤ 2048) (hC : Rd w 1 C0 (cl.map encN)) :
    Calls Tryz.prog 179 #[valPt v, .slice C0 n c0] w (MtEnd w (cl.length + 1) (leadsP cl p)) := jleads_all cl C0 n c0 hl hn (sizeP p) p (Nat.le_refl _) hs X v w hp hg hC
theorem filter_next {m : Nat → Bool} {i : Nat} : (List.range (i + 1)).filter m = (List.range i).filter m ++ (if m i then [i] else []) := by
  rw [List.range_succ, List.filter_append]
  cases h : m i <;> simp [h]
theorem encN_ok' (l : List Nat) : ∀ y ∈ l.map encN, y.length = 1 ∧ ∀ u ∈ y, u.oneCell' = true := by
  intro y hy
  obtain ⟨x, _, rfl⟩ := List.mem_map.1 hy
  exact ⟨rfl, fun u hu => by simp [encN] at hu; rcases hu with rfl; rfl⟩
set_option maxRecDepth 100000 in
set_option maxHeartbeats 4000000 in
theorem jEnds_any (cl : List Nat) (C0 : Option Addr) (n c0 : Nat) (hl : cl.length = n) (hn : n ≤ 100000) (X : Nat → Prop) (p : Pat) (v : Pv) (w : World) (hp : PatX w X p v) (hg : goodP 64 p = true) (hs : sizeP p ≤ 2048) (hC : Rd w 1 C0 (cl.map encN)) :
    Calls Tryz.prog 149 #[valPt v, .slice C0 n c0] w fun e w' => ∃ A k c, e = .returned (.slice A k c) ∧ Own w' w.heap.size 3 1 A k c ((endsB p cl).map encN) ∧ Below w.heap.size w w' := by
  obtain ⟨i0, hi0, hz0, hz1, hz2⟩ := info_parts infoInt
  have HP := Lib.hid hp
  have HG := Lib.hid (fun W (h : PatX W X p v) => jGood_any X p v W h (goodP_mono (by omega) hg) hs)
  have HL := Lib.hid (fun W (h : PatX W X p v) (hc : Rd W 1 C0 (cl.map encN)) => jleads_any cl C0 n c0 hl hn X p v W h hg hs hc)
  have HE := Lib.hid (show endsB p cl = (List.range (n + 1)).filter fun i => leadsP cl p 0 i by unfold endsB; rw [hl])
  rw [hl] at HL
  clear hp hg hl
  obtain ⟨n1, Hn1⟩ : ∃ n1, Hid (n + 1 = n1) := ⟨_, Lib.hid rfl⟩
  obtain ⟨k1, Hk1⟩ : ∃ k1, Hid (n1 / 64 + 1 = k1) := ⟨_, Lib.hid rfl⟩
  simp only [Hn1.out] at HL
  unfold valPt at HG HL ⊢
  have Hz : Below w.heap.size w (w.alloc (.cells #[.int .i64 (v.1 : Int), .slice v.2.1.1 v.2.1.2.1 v.2.1.2.2, .slice v.2.2.1 v.2.2.2.1 v.2.2.2.2] 126)) := (Below.refl _ _).alloc (Nat.le_refl _) _
  have hb0 : Blk (w.alloc (.cells #[.int .i64 (v.1 : Int), .slice v.2.1.1 v.2.1.2.1 v.2.1.2.2, .slice v.2.2.1 v.2.2.2.1 v.2.2.2.2] 126)) w.heap.size 126 _ := Blk.new _ _ _
  go_enter Tryz.func149, Tryz.ntmps149
  go_wp2_with fail
  generalize (w.alloc (.cells #[.int .i64 (v.1 : Int), .slice v.2.1.1 v.2.1.2.1 v.2.1.2.2, .slice v.2.2.1 v.2.2.2.1 v.2.2.2.2] 126)) = w1 at Hz hb0 ⊢
  refine (HG.out w1 (HP.out.below Hz)).mono ?_
  rintro e w2 ⟨rfl, hb2⟩
  have hbw := below_two Hz hb2
  have hb0' := hb0.below hb2
  have d0 := hb0'.cell 0
  have d1 := hb0'.cell 1
  have d2 := hb0'.cell 2
  simp only [List.getElem?_toArray, List.getElem?_cons_succ, List.getElem?_cons_zero] at d0 d1 d2
  have HL2 := Lib.hid (HL.out w2 (HP.out.below hbw) (hC.below hbw))
  clear HG HL hb0 hb0'
  go_wp2_with fail
  refine HL2.out.mono ?_
  rintro e w3 he
  obtain ⟨A2, c2, C2, rfl, hr2, hB2, hb3⟩ := he.rd
  obtain ⟨bm, om, Bm, dm, xm, em, km, -, hxm, hrm, hwm⟩ := hr2.at_ (i := 0) (by have := Hn1.out; omega)
  simp only at em
  subst em
  simp only [Nat.add_zero] at km
  have HR := Lib.hid (hB2.row hxm (by have := Hn1.out; omega))
  rw [Hk1.out] at km hwm
  have hbw3 := below_two hbw hb3
  have hn1z : 0 < n1 := by have := Hn1.out; omega
  have hn1z' : (0 : Int) < (n1 : Int) := by omega
  clear he hr2 hB2 hxm HL2 d0 d1 d2
  go_wp2_with fail
  go_loopw [6, 7] (fun u z wr => ∃ (i : Nat) (A : Option Addr) (k c : Nat), u = .slice A k c ∧ z = .int .i64 i ∧ i ≤ n + 1 ∧ k ≤ i ∧ Own wr w3.heap.size 3 1 A k c (((List.range i).filter fun i => leadsP cl p 0 i).map encN) ∧ Below w3.heap.size w3 wr) (fun _ z _ => n + 1 - (intOf z).toNat)
  case atStart => exact ⟨0, none, 0, 0, rfl, rfl, by omega, by omega, Own.nil_ _ _ _ _, Below.refl _ _⟩
  case round =>
    obtain ⟨i, A, k, c, rfl, rfl, hi, hki, ho, hb⟩ := hrel
    have hsz := hb.size
    by_cases hlt : i ≤ n
    · obtain ⟨q, Hq⟩ : ∃ q, Hid (leadsP cl p 0 i = q) := ⟨_, Lib.hid rfl⟩
      have HH := Lib.hid (jhas_any Bm k1 dm i xm wr (hrm.below hb) hwm (by have := Hn1.out; have := Hk1.out; omega) (by omega))
      rw [HR.out i (by have := Hn1.out; omega), Hq.out] at HH
      have HF := Lib.hid (filter_next (m := fun i => leadsP cl p 0 i) (i := i))
      rw [Hq.out] at HF
      cases q with
      | false =>
        go_wp2_with fail
        refine HH.out.mono ?_
        rintro e w5 ⟨rfl, rfl⟩
        go_wp2
        go_roundw
        case rel => exact ⟨i + 1, A, k, c, rfl, by go_num, by omega, by omega, by rw [HF.out]; simpa using ho, hb⟩
        case measure => simp [intOf]; omega
      | true =>
        go_wp2_with fail
        refine HH.out.mono ?_
        rintro e w5 ⟨rfl, rfl⟩
        go_wp2_with (at_builtin; go_must (refine wpList_app rfl (.tmp 25) (.tmp 27) _ rfl w3.heap.size 3 i0 _ 1 8 Tryz.underlying23 hi0 hz0 hz1 hz2 rfl (by omega) A k c _ rfl (ho.alloc _) _ 1 1 [encN i] rfl rfl (Rd.newAt (by simp) rfl) (encN_ok' [i]) (by unfold maxLen; omega) (by omega) (by simp; omega) ?_); intro A3 c3 w7 ho3 hg3 hA3)
        have hb7 := below_app (hb.alloc hsz (.cells #[.int .i64 (i : Int)] 3)) hg3 (by simp; omega) (fun a ha => (ho.lt a ha).1)
        go_roundw
        case rel => exact ⟨i + 1, A3, k + 1, c3, rfl, by go_num, by omega, by omega, by rw [HF.out, List.map_append]; exact ho3, hb7⟩
        case measure => simp [intOf]; omega
    · obtain rfl : i = n + 1 := by omega
      rw [← HE.out] at ho
      obtain ⟨z, hz⟩ : ∃ z, n + 1 = z := ⟨_, rfl⟩
      have ez : ((n : Int) + 1) = (z : Int) := by omega
      go_wp2
      go_ret
      exact ⟨A, k, c, rfl, ho.more hbw3.size, below_two hbw3 hb⟩
end Go.Proofs.YtdnkignhenkamaaGreatDoor

/- -/
namespace Go.Proofs.YtdnkignhenkamaaGreatDoor
open Go.RowKit
set_option maxRecDepth 100000 in
set_option maxHeartbeats 4000000 in
theorem jStarts_any (cl : List Nat) (C0 : Option Addr) (n c0 : Nat) (hl : cl.length = n) (hn : n ≤ 100000) (X : Nat → Prop) (p : Pat) (v : Pv) (w : World) (hp : PatX w X p v) (hg : goodP 64 p = true) (hs : sizeP p ≤ 2048) (hC : Rd w 1 C0 (cl.map encN)) :
    Calls Tryz.prog 148 #[valPt v, .slice C0 n c0] w fun e w' => ∃ A k c, e = .returned (.slice A k c) ∧ Own w' w.heap.size 3 1 A k c ((startsB p cl).map encN) ∧ Below w.heap.size w w' := by
  obtain ⟨i0, hi0, hz0, hz1, hz2⟩ := info_parts infoInt
  have HP := Lib.hid hp
  have HG := Lib.hid (fun W (h : PatX W X p v) => jGood_any X p v W h (goodP_mono (by omega) hg) hs)
  have HL := Lib.hid (fun W (h : PatX W X p v) (hc : Rd W 1 C0 (cl.map encN)) => jleads_any cl C0 n c0 hl hn X p v W h hg hs hc)
  have HE := Lib.hid (show startsB p cl = (List.range (n + 1)).filter fun i => leadsP cl p i n by unfold startsB; rw [hl])
  rw [hl] at HL
  clear hp hg hl
  obtain ⟨n1, Hn1⟩ : ∃ n1, Hid (n + 1 = n1) := ⟨_, Lib.hid rfl⟩
  obtain ⟨k1, Hk1⟩ : ∃ k1, Hid (n1 / 64 + 1 = k1) := ⟨_, Lib.hid rfl⟩
  simp only [Hn1.out] at HL
  unfold valPt at HG HL ⊢
  have Hz : Below w.heap.size w (w.alloc (.cells #[.int .i64 (v.1 : Int), .slice v.2.1.1 v.2.1.2.1 v.2.1.2.2, .slice v.2.2.1 v.2.2.2.1 v.2.2.2.2] 126)) := (Below.refl _ _).alloc (Nat.le_refl _) _
  have hb0 : Blk (w.alloc (.cells #[.int .i64 (v.1 : Int), .slice v.2.1.1 v.2.1.2.1 v.2.1.2.2, .slice v.2.2.1 v.2.2.2.1 v.2.2.2.2] 126)) w.heap.size 126 _ := Blk.new _ _ _
  go_enter Tryz.func148, Tryz.ntmps148
  go_wp2_with fail
  generalize (w.alloc (.cells #[.int .i64 (v.1 : Int), .slice v.2.1.1 v.2.1.2.1 v.2.1.2.2, .slice v.2.2.1 v.2.2.2.1 v.2.2.2.2] 126)) = w1 at Hz hb0 ⊢
  refine (HG.out w1 (HP.out.below Hz)).mono ?_
  rintro e w2 ⟨rfl, hb2⟩
  have hbw := below_two Hz hb2
  have hb0' := hb0.below hb2
  have d0 := hb0'.cell 0
  have d1 := hb0'.cell 1
  have d2 := hb0'.cell 2
  simp only [List.getElem?_toArray, List.getElem?_cons_succ, List.getElem?_cons_zero] at d0 d1 d2
  have HL2 := Lib.hid (HL.out w2 (HP.out.below hbw) (hC.below hbw))
  clear HG HL hb0 hb0'
  go_wp2_with fail
  refine HL2.out.mono ?_
  rintro e w3 he
  obtain ⟨A2, c2, C2, rfl, hr2, hB2, hb3⟩ := he.rd
  have hbw3 := below_two hbw hb3
  have HB2 := Lib.hid hB2
  clear he HL2 d0 d1 d2 hB2
  go_wp2_with fail
  go_loopw [6, 7] (fun u z wr => ∃ (i : Nat) (A : Option Addr) (k c : Nat), u = .slice A k c ∧ z = .int .i64 i ∧ i ≤ n + 1 ∧ k ≤ i ∧ Own wr w3.heap.size 3 1 A k c (((List.range i).filter fun i => leadsP cl p i n).map encN) ∧ Below w3.heap.size w3 wr) (fun _ z _ => n + 1 - (intOf z).toNat)
  case atStart => exact ⟨0, none, 0, 0, rfl, rfl, by omega, by omega, Own.nil_ _ _ _ _, Below.refl _ _⟩
  case round =>
    obtain ⟨i, A, k, c, rfl, rfl, hi, hki, ho, hb⟩ := hrel
    have hsz := hb.size
    by_cases hlt : i ≤ n
    · obtain ⟨bm, om, Bm, dm, xm, em, km, -, hxm, hrm, hwm⟩ := hr2.at_ (i := i) (by have := Hn1.out; omega)
      simp only at em
      subst em
      have HR := Lib.hid (HB2.out.row hxm (by have := Hn1.out; omega))
      rw [Hk1.out] at km hwm
      replace km := cell_keep km hb
      have hin1 : i < n1 := by have := Hn1.out; omega
      obtain ⟨q, Hq⟩ : ∃ q, Hid (leadsP cl p i n = q) := ⟨_, Lib.hid rfl⟩
      have HH := Lib.hid (jhas_any Bm k1 dm n xm wr (hrm.below hb) hwm (by have := Hn1.out; have := Hk1.out; omega) (by omega))
      rw [HR.out n (by have := Hn1.out; omega), Hq.out] at HH
      have HF := Lib.hid (filter_next (m := fun i => leadsP cl p i n) (i := i))
      rw [Hq.out] at HF
      clear hxm
      cases q with
      | false =>
        go_wp2_with fail
        refine HH.out.mono ?_
        rintro e w5 ⟨rfl, rfl⟩
        go_wp2
        go_roundw
        case rel => exact ⟨i + 1, A, k, c, rfl, by go_num, by omega, by omega, by rw [HF.out]; simpa using ho, hb⟩
        case measure => simp [intOf]; omega
      | true =>
        go_wp2_with fail
        refine HH.out.mono ?_
        rintro e w5 ⟨rfl, rfl⟩
        go_wp2_with (at_builtin; go_must (refine wpList_app rfl (.tmp 27) (.tmp 29) _ rfl w3.heap.size 3 i0 _ 1 8 Tryz.underlying23 hi0 hz0 hz1 hz2 rfl (by omega) A k c _ rfl (ho.alloc _) _ 1 1 [encN i] rfl rfl (Rd.newAt (by simp) rfl) (encN_ok' [i]) (by unfold maxLen; omega) (by omega) (by simp; omega) ?_); intro A3 c3 w7 ho3 hg3 hA3)
        have hb7 := below_app (hb.alloc hsz (.cells #[.int .i64 (i : Int)] 3)) hg3 (by simp; omega) (fun a ha => (ho.lt a ha).1)
        go_roundw
        case rel => exact ⟨i + 1, A3, k + 1, c3, rfl, by go_num, by omega, by omega, by rw [HF.out, List.map_append]; exact ho3, hb7⟩
        case measure => simp [intOf]; omega
    · obtain rfl : i = n + 1 := by omega
      rw [← HE.out] at ho
      obtain ⟨z, hz⟩ : ∃ z, n + 1 = z := ⟨_, rfl⟩
      have ez : ((n : Int) + 1) = (z : Int) := by omega
      go_wp2
      go_ret
      exact ⟨A, k, c, rfl, ho.more hbw3.size, below_two hbw3 hb⟩
set_option maxRecDepth 100000 in
set_option maxHeartbeats 1000000 in
theorem oin_any (A : Option Addr) (n c : Nat) (l : List Nat) (x : Nat) (w : World) (hA : Rd w 1 A (l.map encN)) (hl : l.length = n) (hn : n ≤ 4000000) :
    Calls Tryz.prog 150 #[.slice A n c, .int .i64 (x : Nat)] w fun e w' => e = .returned (.bool (l.contains x)) ∧ w = w' := by
  have Hl := Lib.hid hl
  clear hl
  go_enter Tryz.func150, Tryz.ntmps150
  go_wp2
  go_loopw [5] (fun v wr => ∃ i : Nat, v = .int .i64 i ∧ i ≤ n ∧ x ∉ l.take i ∧ wr = w) (fun v _ => n - (intOf v).toNat)
  case atStart => exact ⟨0, rfl, by omega, by simp, rfl⟩
  case round =>
    obtain ⟨i, rfl, hi, hm, rfl⟩ := hrel
    by_cases hlt : i < n
    · obtain ⟨y, hy⟩ : ∃ y, l[i]? = some y := ⟨_, List.getElem?_eq_getElem (by have := Hl.out; omega)⟩
      obtain ⟨b, off, rfl, hc⟩ := hA.atNa hy
      by_cases e : y = x
      · subst e
        have HV := Lib.hid (show l.contains y = true from List.contains_iff_mem.2 (List.mem_of_getElem? hy))
        clear hm hy
        go_wp2
        go_ret
        exact ⟨by rw [HV.out]; rfl, rfl⟩
      · have e2 : ((y : Int) == (x : Int)) = false := beq_eq_false_iff_ne.2 (by omega)
        have HM := Lib.hid (mem_step hm hy e)
        clear hm hy e
        go_wp2
        go_roundw
        case rel => exact ⟨i + 1, by go_num, by omega, HM.out, by first | rfl | trivial⟩
        case measure => simp [intOf]; omega
    · obtain rfl : i = n := by omega
      have HV := Lib.hid (show l.contains x = false from by
        rw [List.take_of_length_le (by have := Hl.out; omega)] at hm
        exact Bool.eq_false_iff.2 fun h => hm (List.contains_iff_mem.1 h))
      go_wp2
      go_ret
      exact ⟨by rw [HV.out]; rfl, rfl⟩
end Go.Proofs.YtdnkignhenkamaaGreatDoor

/- -/
namespace Go.Proofs.YtdnkignhenkamaaGreatDoor
open Go.RowKit
def encMk (x : Nat × Nat × Nat) : List Value := [.int .i64 (x.2.1 : Nat), .int .i64 ((x.2.2 : Int) - (x.2.1 : Int)), .int .i32 (x.1 : Nat), .bool (decide (x.2.2 - x.2.1 = 1) && decide (x.1 = 65533))]
theorem infoMark : (Tryz.prog.info? 89).map (fun i => (i.zero, i.size, i.bytes)) = some (some (.agg #[.int .i64 0, .int .i64 0, .int .i32 0, .bool false]), 4, 24) := by kernel_rfl
theorem encMk_ok (l : List (Nat × Nat × Nat)) : ∀ y ∈ l.map encMk, y.length = 4 ∧ ∀ u ∈ y, u.oneCell' = true := by
  intro y hy
  obtain ⟨x, _, rfl⟩ := List.mem_map.1 hy
  exact ⟨rfl, fun u hu => by simp [encMk] at hu; rcases hu with rfl | rfl | rfl | rfl <;> rfl⟩
theorem decode_part (s : ByteArray) {a : Nat} (_ha : a < s.size) : Utf8.decode (s.extract a s.size) 0 = Utf8.decode s a := by
  have hg : ∀ k, (s.extract a s.size).get! k = s.get! (a + k) := fun k => by
    rw [← get_sub s (Nat.le_refl _) k]
    congr 1
    simp
  rw [Lib.decode_at, Lib.decode_at, hg, hg, hg, hg, Nat.add_zero, Nat.zero_add, Nat.zero_add, Nat.zero_add, ByteArray.size_extract]
  rw [Nat.min_self, Nat.sub_zero]
def MkAt (s : ByteArray) (q : Nat) (o : List (Nat × Nat × Nat)) : Prop := ∃ f, s.size ≤ q + f ∧ runesP s = o ++ runesGo s f q
theorem mkAt_first (s : ByteArray) : MkAt s 0 [] := ⟨s.size, by omega, rfl⟩
theorem mkAt_add {s : ByteArray} {q R W : Nat} {o : List (Nat × Nat × Nat)} (h : MkAt s q o) (hq : q < s.size) (hd : Utf8.decode s q = (R, W)) : MkAt s (q + W) (o ++ [(R, q, q + W)]) := by
  obtain ⟨f, hf, e⟩ := h
  obtain ⟨k, rfl, hk⟩ := runesGo_step hq hf
  rw [hk, hd] at e
  have hb := dec_bd s q hq
  rw [hd] at hb
  exact ⟨k, by simp only at hb; omega, by rw [e, List.append_assoc]; rfl⟩
theorem mkAt_end {s : ByteArray} {q : Nat} {o : List (Nat × Nat × Nat)} (h : MkAt s q o) (hq : ¬ q < s.size) : o = runesP s := by
  obtain ⟨f, hf, e⟩ := h
  rw [e, runesGo_end (by omega), List.append_nil]
set_option maxRecDepth 100000 in
set_option maxHeartbeats 4000000 in
theorem tMarks_any (s : ByteArray) (w : World) (hz : s.size ≤ 1000000) :
    Calls Tryz.prog 85 #[.string s] w fun e w' => ∃ A n c, e = .returned (.slice A n c) ∧ Own w' w.heap.size 89 4 A n c ((runesP s).map encMk) ∧ Below w.heap.size w w' := by
  obtain ⟨i0, hi0, hz0, hz1, hz2⟩ := info_parts infoMark
  go_enter Tryz.func85, Tryz.ntmps85
  go_wp2
  go_loopw [3, 4, 5, 6] (fun u v _ _ wr => ∃ (q n c : Nat) (A : Option Addr) (o : List (Nat × Nat × Nat)), u = .slice A n c ∧ v = .int .i64 (q : Nat) ∧ q ≤ s.size ∧ n ≤ q ∧ Hid (MkAt s q o) ∧ Own wr w.heap.size 89 4 A n c (o.map encMk) ∧ Below w.heap.size w wr) (fun _ v _ _ _ => s.size - (intOf v).toNat)
  case atStart => exact ⟨0, 0, 0, none, [], rfl, rfl, by omega, by omega, Lib.hid (mkAt_first s), Own.nil_ _ _ _ _, Below.refl _ _⟩
  case round =>
    obtain ⟨q, n, c, A, o, rfl, rfl, hq, hn, HM, ho, hb⟩ := hrel
    have hsz := hb.size
    by_cases hlt : q < s.size
    · have hd := dec_bd s q hlt
      obtain ⟨⟨R, W⟩, HDc⟩ : ∃ d, Hid (Utf8.decode s q = d) := ⟨_, Lib.hid rfl⟩
      have HT := Lib.hid (tDecode_any (s.extract q s.size) wr (by rw [ByteArray.size_extract]; omega) (by rw [ByteArray.size_extract]; omega))
      rw [decode_part s hlt, HDc.out] at HT
      rw [HDc.out] at hd
      simp only at hd HT
      have HM2 := Lib.hid (mkAt_add HM.out hlt HDc.out)
      have hq1 : (q : Int) ≤ (s.size : Int) := by omega
      obtain ⟨t1, ht1⟩ : ∃ t, ((W : Int) == 1) = t := ⟨_, rfl⟩
      obtain ⟨t2, ht2⟩ : ∃ t, ((R : Int) == 65533) = t := ⟨_, rfl⟩
      have HB : Hid (encMk (R, q, q + W) = [.int .i64 (q : Nat), .int .i64 (W : Nat), .int .i32 (R : Nat), .bool (t1 && t2)]) := Lib.hid (by
        unfold encMk
        have e1 : decide (q + W - q = 1) = t1 := by rw [← ht1, Bool.eq_iff_iff, decide_eq_true_iff, beq_iff_eq]; omega
        have e2 : decide (R = 65533) = t2 := by rw [← ht2, Bool.eq_iff_iff, decide_eq_true_iff, beq_iff_eq]; omega
        have e3 : (((q + W : Nat) : Int) - (q : Int)) = (W : Int) := by omega
        simp only
        rw [e1, e2, e3])
      clear HDc
      go_wp2_with fail
      refine HT.out.mono ?_
      rintro e w2 ⟨rfl, rfl⟩
      cases t1 with
      | false =>
        go_wp2_with (at_builtin; go_must (refine wpList_app rfl (.tmp 18) (.tmp 29) _ rfl w.heap.size 89 i0 _ 4 24 Tryz.underlying86 hi0 hz0 hz1 hz2 rfl (by omega) A n c _ rfl (ho.alloc _) _ 1 1 [encMk (R, q, q + W)] rfl rfl (Rd.newAt (by simp) (by rw [HB.out]; rfl)) (encMk_ok [(R, q, q + W)]) (by unfold maxLen; omega) (by omega) (by simp; omega) ?_); intro A3 c3 w7 ho3 hg3 hA3)
        have hb7 := below_app (hb.alloc hsz _) hg3 (by simp; omega) (fun a ha => (ho.lt a ha).1)
        go_roundw
        case rel => exact ⟨q + W, n + 1, c3, A3, o ++ [(R, q, q + W)], rfl, by go_num, by omega, by omega, HM2, by rw [List.map_append]; exact ho3, hb7⟩
        case measure => simp [intOf]; omega
      | true =>
        go_wp2_with (at_builtin; go_must (refine wpList_app rfl (.tmp 18) (.tmp 29) _ rfl w.heap.size 89 i0 _ 4 24 Tryz.underlying86 hi0 hz0 hz1 hz2 rfl (by omega) A n c _ rfl (ho.alloc _) _ 1 1 [encMk (R, q, q + W)] rfl rfl (Rd.newAt (by simp) (by rw [HB.out]; rfl)) (encMk_ok [(R, q, q + W)]) (by unfold maxLen; omega) (by omega) (by simp; omega) ?_); intro A3 c3 w7 ho3 hg3 hA3)
        have hb7 := below_app (hb.alloc hsz _) hg3 (by simp; omega) (fun a ha => (ho.lt a ha).1)
        go_roundw
        case rel => exact ⟨q + W, n + 1, c3, A3, o ++ [(R, q, q + W)], rfl, by go_num, by omega, by omega, HM2, by rw [List.map_append]; exact ho3, hb7⟩
        case measure => simp [intOf]; omega
    · have HE := Lib.hid (mkAt_end HM.out hlt)
      go_wp2
      go_ret
      exact ⟨A, n, c, rfl, by rw [← HE.out]; exact ho, hb⟩
set_option maxRecDepth 100000 in
set_option maxHeartbeats 4000000 in
theorem tEdges_any (s : ByteArray) (w : World) (hz : s.size ≤ 1000000) :
    Calls Tryz.prog 63 #[.string s] w fun e w' => ∃ A n c, e = .returned (.slice A n c) ∧ Own w' w.heap.size 3 1 A n c ((edgesP s).map encN) ∧ Below w.heap.size w w' := by
  obtain ⟨i0, hi0, hz0, hz1, hz2⟩ := info_parts infoInt
  have HM := Lib.hid (tMarks_any s w hz)
  obtain ⟨X, HX⟩ : ∃ L, Hid (runesP s = L) := ⟨_, Lib.hid rfl⟩
  have hXz : X.length ≤ s.size := by rw [← HX.out]; exact runesP_len s
  have HV : Hid (edgesP s = X.map (fun x => x.2.1) ++ [s.size]) := Lib.hid (by unfold edgesP; rw [HX.out])
  rw [HX.out] at HM
  go_enter Tryz.func63, Tryz.ntmps63
  go_wp2_with fail
  refine HM.out.mono ?_
  rintro e w2 ⟨A, m, c, rfl, ho, hb2⟩
  have hm : X.length = m := by have := ho.len; rwa [List.length_map] at this
  have rd := ho.rd (by decide)
  have Hm := Lib.hid hm
  have hmz : m ≤ 1000000 := by omega
  clear HM ho hm
  go_wp2_with fail
  go_loopw [4, 5] (fun u v wr => ∃ (i k : Nat) (A1 : Option Addr), u = .slice A1 i k ∧ v = .int .i64 i ∧ i ≤ m ∧ Own wr w2.heap.size 3 1 A1 i k (((X.take i).map fun x => x.2.1).map encN) ∧ Below w2.heap.size w2 wr) (fun _ v _ => m - (intOf v).toNat)
  case atStart => exact ⟨0, 0, none, rfl, rfl, by omega, Own.nil_ _ _ _ _, Below.refl _ _⟩
  case round =>
    obtain ⟨i, k, A1, rfl, rfl, hi, ho, hb⟩ := hrel
    have hsz := hb.size
    by_cases hlt : i < m
    · obtain ⟨⟨R, a, z⟩, Hx⟩ : ∃ x, Hid (X[i]? = some x) := ⟨_, Lib.hid (List.getElem?_eq_getElem (by have := Hm.out; omega))⟩
      obtain ⟨b, off, rfl, hc⟩ := rd (by intro e; have := congrArg List.length e; rw [List.length_map, Hm.out] at this; simp at this; omega)
      have c0 := hc i 0 (encMk (R, a, z)) (.int .i64 (a : Nat)) (by rw [List.getElem?_map, Hx.out]; rfl) rfl
      simp only [Nat.add_zero] at c0
      replace c0 := cell_keep c0 hb
      have HT := Lib.hid (show ((X.take (i + 1)).map fun x => x.2.1) = ((X.take i).map fun x => x.2.1) ++ [a] by rw [List.take_add_one, Hx.out, Option.toList_some, List.map_append]; rfl)
      clear hc Hx
      go_wp2_with (at_builtin; go_must (refine wpList_app rfl (.tmp 14) (.tmp 20) _ rfl w2.heap.size 3 i0 _ 1 8 Tryz.underlying23 hi0 hz0 hz1 hz2 rfl (by omega) A1 i k _ rfl (ho.alloc _) _ 1 1 [encN a] rfl rfl (Rd.newAt (by simp) rfl) (encN_ok' [a]) (by unfold maxLen; omega) (by omega) (by simp; omega) ?_); intro A3 c3 w7 ho3 hg3 hA3)
      have hb7 := below_app (hb.alloc hsz (.cells #[.int .i64 (a : Int)] 3)) hg3 (by simp; omega) (fun a ha => (ho.lt a ha).1)
      go_roundw
      case rel => exact ⟨i + 1, c3, A3, rfl, by go_num, by omega, by rw [HT.out, List.map_append]; exact ho3, hb7⟩
      case measure => simp [intOf]; omega
    · obtain rfl : i = m := by omega
      have HT := Lib.hid (show X.take i = X from List.take_of_length_le (by have := Hm.out; omega))
      rw [HT.out] at ho
      have hsz1 := hb2.size
      go_wp2_with (at_builtin; go_must (refine wpList_app rfl (.tmp 22) (.tmp 25) _ rfl w2.heap.size 3 i0 _ 1 8 Tryz.underlying23 hi0 hz0 hz1 hz2 rfl (by omega) A1 i k _ rfl (ho.alloc _) _ 1 1 [encN s.size] rfl rfl (Rd.newAt (by simp) rfl) (encN_ok' [s.size]) (by unfold maxLen; omega) (by omega) (by simp; omega) ?_); intro A3 c3 w7 ho3 hg3 hA3)
      have hb7 := below_app (hb.alloc hsz (.cells #[.int .i64 (s.size : Int)] 3)) hg3 (by simp; omega) (fun a ha => (ho.lt a ha).1)
      go_ret
      exact ⟨A3, i + 1, c3, rfl, by rw [HV.out, List.map_append]; exact ho3.more hsz1, below_two hb2 hb7⟩
end Go.Proofs.YtdnkignhenkamaaGreatDoor

