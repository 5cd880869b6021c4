/-
  Several texts in one, in their build order: PrL, PtN, PtO, Qd, Vi, Vm, PtP, Vc, Ve, Ke, Td, Tf, Gi.
-/
import Derived.WalkMore
import Derived.Test.YtdnkignhenkamaaGreatDoorS6a
import Derived.Test.YtdnkignhenkamaaGreatDoorS1a
import Derived.Test.YtdnkignhenkamaaGreatDoorSPtM
import Derived.Test.YtdnkignhenkamaaGreatDoorS0a
import Derived.Test.YtdnkignhenkamaaGreatDoorS3a
import Derived.Test.YtdnkignhenkamaaGreatDoorS5a
import Derived.Test.YtdnkignhenkamaaGreatDoorS1b
import Derived.Test.YtdnkignhenkamaaGreatDoorSShelf
import Derived.Test.YtdnkignhenkamaaGreatDoorSRdr
/- -/
namespace Go.Proofs.YtdnkignhenkamaaGreatDoor
open Go.RowKit Go.Maps
theorem pBlank_eq : pBlank = blkB := by
  funext c
  have h1 : c = 32 ↔ c.toNat = 32 := u8_eq (n := 32) (by omega)
  have h2 : c = 9 ↔ c.toNat = 9 := u8_eq (n := 9) (by omega)
  unfold pBlank blkB
  rw [Bool.eq_iff_iff]
  simp only [Bool.or_eq_true, beq_iff_eq, decide_eq_true_iff, h1, h2]
theorem trimB_eq (l : List UInt8) : trimB l = trimL l := by unfold trimB trimL; rw [pBlank_eq]
theorem byte_of (t : List UInt8) {i : Nat} (hi : i < t.length) : ∃ x, t[i]? = some x ∧ ∀ W, (Instr.index 9 (.string (bytesOf t)) (.int .i64 (i : Nat))).run Tryz.prog W = .ok (.int .u8 (x.toNat : Int)) W := by
  have hp : i < (bytesOf t).size := by rw [bytesOf_size]; exact hi
  refine ⟨(bytesOf t)[i]'hp, ?_, fun W => index_at (bytesOf t) i i rfl hp W⟩
  have := get_list hp
  rw [bytesOf_list] at this
  exact this
theorem take_at {q : UInt8 → Bool} {l : List UInt8} {i : Nat} {x : UInt8} (hx : l[i]? = some x) : (q x = true → l.take i ++ (l.drop i).takeWhile q = l.take (i + 1) ++ (l.drop (i + 1)).takeWhile q) ∧ (q x = false → l.take i ++ (l.drop i).takeWhile q = l.take i) := by
  obtain ⟨hi, e⟩ := List.getElem?_eq_some_iff.1 hx
  rw [List.drop_eq_getElem_cons hi, e]
  constructor
  · intro hq
    rw [List.takeWhile_cons, if_pos hq, List.take_add_one, hx]
    simp
  · intro hq
    rw [List.takeWhile_cons, if_neg (by rw [hq]; simp), List.append_nil]
set_option maxRecDepth 100000 in
set_option maxHeartbeats 4000000 in
theorem oplain_any (L : List UInt8) (w : World) (hL : L.length ≤ 1000000) : Calls Tryz.prog 143 #[.string (bytesOf L)] w fun e w' => e = .returned (.string (bytesOf (plainB L))) ∧ w = w' := by
  have hsz : (bytesOf L).size = L.length := bytesOf_size L
  have HT := Lib.hid (fun i W => show Calls Tryz.prog 145 #[.string ((bytesOf L).extract 0 i)] W fun e w' => e = .returned (.string (bytesOf (trimL (L.take i)))) ∧ W = w' by
    rw [ext_bytes0]; exact otrim_any (L.take i) W (by rw [List.length_take]; omega))
  have HA := Lib.hid (fun W => otrim_any L W hL)
  have HP := Lib.hid (show plainB L = trimL (L.takeWhile fun c => decide (c.toNat ≠ 35)) by unfold plainB; rw [trimB_eq])
  go_enter Tryz.func143, Tryz.ntmps143
  go_wp2
  go_loopw [3] (fun v wr => ∃ i : Nat, v = .int .i64 i ∧ i ≤ L.length ∧ Hid ((L.takeWhile fun c => decide (c.toNat ≠ 35)) = L.take i ++ (L.drop i).takeWhile fun c => decide (c.toNat ≠ 35)) ∧ wr = w) (fun v _ => L.length - (intOf v).toNat)
  case atStart => exact ⟨0, rfl, by omega, Lib.hid rfl, rfl⟩
  case round =>
    obtain ⟨i, rfl, hi, HD, rfl⟩ := hrel
    by_cases hlt : i < L.length
    · obtain ⟨x, hx, hix⟩ := byte_of L hlt
      by_cases h35 : x.toNat = 35
      · have t1 : ((x.toNat : Int) == 35) = true := by rw [beq_iff_eq]; omega
        have HE := Lib.hid (show plainB L = trimL (L.take i) by rw [HP.out, HD.out, (take_at hx).2 (by simp [h35])])
        have HT1 := Lib.hid (HT.out i wr)
        clear hx h35
        go_wp2_with (go_at_call 145; refine HT1.out.mono ?_; rintro e w' ⟨rfl, rfl⟩)
        go_ret
        exact ⟨by rw [HE.out]; rfl, rfl⟩
      · have t1 : ((x.toNat : Int) == 35) = false := by rw [beq_eq_false_iff_ne]; omega
        have HD2 := Lib.hid (HD.out.trans ((take_at hx).1 (by simp [h35])))
        clear hx h35
        go_wp2
        go_roundw
        case rel => exact ⟨i + 1, by go_num, by omega, HD2, by first | rfl | trivial⟩
        case measure => simp [intOf]; omega
    · obtain rfl : i = L.length := by omega
      have HE := Lib.hid (show plainB L = trimL L by rw [HP.out, HD.out]; simp)
      have HT1 := Lib.hid (HA.out wr)
      go_wp2_with (go_at_call 145; refine HT1.out.mono ?_; rintro e w' ⟨rfl, rfl⟩)
      go_ret
      exact ⟨by rw [HE.out]; rfl, rfl⟩
theorem signP_some {l a b : List UInt8} {cut : Bool} (h : signP l = some (a, cut, b)) : ∃ c, l = a ++ c :: b ∧ (∀ x ∈ a, pSign x = false) ∧ pSign c = true ∧ (∀ x ∈ b, pSign x = false) ∧ cut = decide (c.toNat = 47) := by
  unfold signP at h
  split at h
  · cases h
  · rename_i c t hd
    split at h
    · cases h
    · rename_i hb
      injection h with h
      injection h with h1 h2
      injection h2 with h2 h3
      subst h1 h2 h3
      have hc : (!pSign c) = false := by
        have h1 := List.head?_dropWhile_not (fun c => !pSign c) l
        rw [hd] at h1
        simpa using h1
      refine ⟨c, ?_, fun x hx => ?_, by simpa using hc, fun x hx => ?_, rfl⟩
      · rw [← hd, List.takeWhile_append_dropWhile]
      · have h1 := List.all_takeWhile (p := fun c => !pSign c) (l := l)
        rw [List.all_eq_true] at h1
        simpa using h1 x hx
      · cases hq : pSign x with
        | false => rfl
        | true => exact absurd (List.any_eq_true.2 ⟨x, hx, hq⟩) hb
theorem sign_tests (x : UInt8) : pSign x = (((x.toNat : Int) == 126) || ((x.toNat : Int) == 47)) := by
  unfold pSign
  rw [Bool.eq_iff_iff]
  simp only [Bool.or_eq_true, beq_iff_eq, decide_eq_true_iff]
  omega
set_option maxRecDepth 100000 in
set_option maxHeartbeats 4000000 in
theorem osplit_ok (a b : List UInt8) (c : UInt8) (w : World) (hz : (a ++ c :: b).length ≤ 1000000) (ha : ∀ x ∈ a, pSign x = false) (hc : pSign c = true) (hb : ∀ x ∈ b, pSign x = false) : Calls Tryz.prog 144 #[.string (bytesOf (a ++ c :: b))] w fun e w' => e = .returned (.int .i64 (a.length : Nat)) ∧ w = w' := by
  have HI := Lib.hid (fun i x (hx : (a ++ c :: b)[i]? = some x) => show pSign x = decide (i = a.length) by
    rcases Nat.lt_trichotomy i a.length with h | h | h
    · rw [List.getElem?_append_left h] at hx
      rw [ha x (List.mem_of_getElem? hx), decide_eq_false (by omega)]
    · subst h
      rw [List.getElem?_append_right (Nat.le_refl _), Nat.sub_self, List.getElem?_cons_zero] at hx
      injection hx with hx
      subst hx
      rw [hc, decide_eq_true rfl]
    · rw [List.getElem?_append_right (by omega)] at hx
      obtain ⟨j, hj⟩ : ∃ j, i - a.length = j + 1 := ⟨i - a.length - 1, by omega⟩
      rw [hj, List.getElem?_cons_succ] at hx
      rw [hb x (List.mem_of_getElem? hx), decide_eq_false (by omega)])
  have hl : (a ++ c :: b).length = a.length + 1 + b.length := by simp; omega
  have hsz : (bytesOf (a ++ c :: b)).size = (a ++ c :: b).length := bytesOf_size _
  have HB := Lib.hid (fun i (hi : i < (a ++ c :: b).length) => byte_of (a ++ c :: b) hi)
  obtain ⟨m, hm⟩ : ∃ m, a.length = m := ⟨_, rfl⟩
  rw [hm] at HI hl ⊢
  generalize a ++ c :: b = L at HI HB hsz hl hz ⊢
  clear ha hb hc hm
  go_enter Tryz.func144, Tryz.ntmps144
  go_wp2
  go_loopw [3, 4] (fun u v wr => ∃ i : Nat, v = .int .i64 i ∧ i ≤ L.length ∧ ((i ≤ m ∧ u = .int .i64 (-1)) ∨ (m < i ∧ u = .int .i64 (m : Nat))) ∧ wr = w) (fun _ v _ => L.length - (intOf v).toNat)
  case atStart => exact ⟨0, rfl, by omega, .inl ⟨by omega, rfl⟩, rfl⟩
  case round =>
    obtain ⟨i, rfl, hi, hcs, rfl⟩ := hrel
    by_cases hlt : i < L.length
    · obtain ⟨x, hx, hix⟩ := HB.out i hlt
      have hq := HI.out i x hx
      rw [sign_tests] at hq
      rcases Nat.lt_trichotomy i m with h | h | h
      · rcases hcs with ⟨_, rfl⟩ | ⟨h2, _⟩
        · rw [decide_eq_false (by omega), Bool.or_eq_false_iff] at hq
          obtain ⟨t1, t2⟩ := hq
          clear hx
          go_wp2
          go_roundw
          case rel => exact ⟨i + 1, by go_num, by omega, .inl ⟨by omega, rfl⟩, by first | rfl | trivial⟩
          case measure => simp [intOf]; omega
        · omega
      · subst h
        rcases hcs with ⟨_, rfl⟩ | ⟨h2, _⟩
        · rw [decide_eq_true rfl, Bool.or_eq_true] at hq
          cases t1 : ((x.toNat : Int) == 126) with
          | true =>
            clear hx hq
            go_wp2
            go_roundw
            case rel => exact ⟨i + 1, by go_num, by omega, .inr ⟨by omega, rfl⟩, by first | rfl | trivial⟩
            case measure => simp [intOf]; omega
          | false =>
            have t2 : ((x.toNat : Int) == 47) = true := by rcases hq with h | h; rw [t1] at h; cases h; exact h
            clear hx hq
            go_wp2
            go_roundw
            case rel => exact ⟨i + 1, by go_num, by omega, .inr ⟨by omega, rfl⟩, by first | rfl | trivial⟩
            case measure => simp [intOf]; omega
        · omega
      · rcases hcs with ⟨h2, _⟩ | ⟨_, rfl⟩
        · omega
        · rw [decide_eq_false (by omega), Bool.or_eq_false_iff] at hq
          obtain ⟨t1, t2⟩ := hq
          clear hx
          go_wp2
          go_roundw
          case rel => exact ⟨i + 1, by go_num, by omega, .inr ⟨by omega, rfl⟩, by first | rfl | trivial⟩
          case measure => simp [intOf]; omega
    · obtain rfl : i = L.length := by omega
      rcases hcs with ⟨h2, _⟩ | ⟨_, rfl⟩
      · omega
      · go_wp2
        go_ret
        exact ⟨rfl, rfl⟩
end Go.Proofs.YtdnkignhenkamaaGreatDoor

/- -/
namespace Go.Proofs.YtdnkignhenkamaaGreatDoor
open Go.RowKit
structure RsX (w : World) (X : Nat → Prop) (rules : List RuleP) (v : Sv) : Prop where
  ex : ∃ vs : List Ruv, SlX w X 9 v (vs.map encRul) ∧ vs.length = rules.length ∧ ∀ (i : Nat) (r : RuleP) (u : Ruv), rules[i]? = some r → vs[i]? = some u → RuX w X r u
theorem RsX.keep {X X' : Nat → Prop} {w w' : World} {rules : List RuleP} {v : Sv} (h : RsX w X rules v) (k : KeepX X X' w w') : RsX w' X' rules v := by
  obtain ⟨vs, h1, h2, h3⟩ := h.ex
  exact ⟨vs, h1.keep k, h2, fun i r u hr hu => (h3 i r u hr hu).keep k⟩
theorem RsX.below {X : Nat → Prop} {w w' : World} {rules : List RuleP} {v : Sv} (h : RsX w X rules v) (hb : Below w.heap.size w w') : RsX w' X rules v := h.keep (KeepX.below hb)
theorem RsX.len {X : Nat → Prop} {w : World} {rules : List RuleP} {v : Sv} (h : RsX w X rules v) : v.2.1 = rules.length := by
  obtain ⟨vs, h1, h2, h3⟩ := h.ex
  have := h1.len
  rw [List.length_map] at this
  omega
theorem RsX.at_ {X : Nat → Prop} {w : World} {rules : List RuleP} {v : Sv} {i : Nat} {r : RuleP} (h : RsX w X rules v) (hr : rules[i]? = some r) :
    ∃ (b off : Nat) (u : Ruv), v.1 = some ⟨b, off, none⟩ ∧ RuX w X r u ∧ w.cell? ⟨b, off + i * 9, none⟩ = some (.bool u.1) ∧ w.cell? ⟨b, off + i * 9 + 1, none⟩ = some (.bool u.2.1) ∧ w.cell? ⟨b, off + i * 9 + 2, none⟩ = some (.bool u.2.2.1) ∧
      w.cell? ⟨b, off + i * 9 + 3, none⟩ = some (.int .i64 (u.2.2.2.1.1 : Int)) ∧ w.cell? ⟨b, off + i * 9 + 4, none⟩ = some (.slice u.2.2.2.1.2.1.1 u.2.2.2.1.2.1.2.1 u.2.2.2.1.2.1.2.2) ∧ w.cell? ⟨b, off + i * 9 + 5, none⟩ = some (.slice u.2.2.2.1.2.2.1 u.2.2.2.1.2.2.2.1 u.2.2.2.1.2.2.2.2) ∧
      w.cell? ⟨b, off + i * 9 + 6, none⟩ = some (.int .i64 (u.2.2.2.2.1 : Int)) ∧ w.cell? ⟨b, off + i * 9 + 7, none⟩ = some (.slice u.2.2.2.2.2.1.1 u.2.2.2.2.2.1.2.1 u.2.2.2.2.2.1.2.2) ∧ w.cell? ⟨b, off + i * 9 + 8, none⟩ = some (.slice u.2.2.2.2.2.2.1 u.2.2.2.2.2.2.2.1 u.2.2.2.2.2.2.2.2) := by
  obtain ⟨vs, h1, h2, h3⟩ := h.ex
  obtain ⟨u, hu⟩ : ∃ u, vs[i]? = some u := ⟨_, List.getElem?_eq_getElem (by have := (List.getElem?_eq_some_iff.1 hr).1; omega)⟩
  obtain ⟨b, off, e, hc⟩ := h1.rd (by intro e; cases vs with | nil => simp at hu | cons _ _ => simp at e)
  have hg := fun j (x : Value) (hx : (encRul u)[j]? = some x) => hc i j (encRul u) x (by simp [hu]) hx
  exact ⟨b, off, u, e, h3 i r u hr hu, hg 0 _ rfl, hg 1 _ rfl, hg 2 _ rfl, hg 3 _ rfl, hg 4 _ rfl, hg 5 _ rfl, hg 6 _ rfl, hg 7 _ rfl, hg 8 _ rfl⟩
def valRs (v : Sv) (rest : Bool) : Value := .agg #[.slice v.1 v.2.1 v.2.2, .bool rest]
theorem decideB_drop {rest : Bool} {c : List Nat} {a i : Nat} {rules : List RuleP} {r : RuleP} (h : rules[i]? = some r) : decideB rest c a (rules.drop i) = if appliesB r c a then r.cut else decideB rest c a (rules.drop (i + 1)) := by
  obtain ⟨hi, e⟩ := List.getElem?_eq_some_iff.1 h
  rw [List.drop_eq_getElem_cons hi, e]
  rfl
set_option maxRecDepth 100000 in
set_option maxHeartbeats 4000000 in
theorem oDecide_any (cl : List Nat) (b0 off0 n c0 a : Nat) (hl : cl.length = n) (hn : n ≤ 100000) (hc0 : n ≤ c0) (hn0 : 0 < n) (ha : a ≤ n) (X : Nat → Prop) (rules : List RuleP) (rest : Bool) (v : Sv) (w : World) (hr : RsX w X rules v) (hok : ∀ r ∈ rules, RuleOk r) (hz : rules.length ≤ 64) (hC : Rd w 1 (some ⟨b0, off0, none⟩) (cl.map encN)) :
    Calls Tryz.prog 92 #[valRs v rest, .slice (some ⟨b0, off0, none⟩) n c0, .int .i64 (a : Nat)] w fun e w' => (∃ x : Int, e = .returned (.tuple #[.bool (placeB rules rest cl a), .int .i64 x])) ∧ Below w.heap.size w w' := by
  obtain ⟨A, m, d⟩ := v
  have hm := hr.len
  simp only at hm
  unfold valRs
  simp only
  have HV : Hid (placeB rules rest cl a = (decide (a = 0) || decide (a = n) || decideB rest cl a rules)) := Lib.hid (by unfold placeB; rw [hl])
  have hn0' : ((n : Int) == 0) = false := beq_eq_false_iff_ne.2 (by omega)
  have t1 : decide ((a : Int) < 0) = false := decide_eq_false (by omega)
  have t2 : decide (n < a) = false := decide_eq_false (by omega)
  by_cases ha0 : a = 0
  · subst ha0
    have t3 : (((0 : Nat) : Int) == 0) = true := rfl
    go_enter Tryz.func92, Tryz.ntmps92
    go_wp2
    go_ret2
    exact ⟨⟨-1, by rw [HV.out]; rfl⟩, (Below.refl _ _).alloc (Nat.le_refl _) _⟩
  by_cases han : a = n
  · subst han
    go_enter Tryz.func92, Tryz.ntmps92
    go_wp2
    go_ret2
    exact ⟨⟨-1, by rw [HV.out]; simp⟩, (Below.refl _ _).alloc (Nat.le_refl _) _⟩
  have t3 : ((a : Int) == 0) = false := beq_eq_false_iff_ne.2 (by omega)
  have t4 : ((a : Int) == (n : Int)) = false := beq_eq_false_iff_ne.2 (by omega)
  have HV2 : Hid (placeB rules rest cl a = decideB rest cl a rules) := Lib.hid (by rw [HV.out, decide_eq_false ha0, decide_eq_false han]; rfl)
  have HAp := Lib.hid (fun r u W (h : RuX W X r u) (hrm : r ∈ rules) (hc : Rd W 1 (some ⟨b0, off0, none⟩) (cl.map encN)) => oApplies_any cl b0 off0 n c0 a hl hn hc0 (by omega) (by omega) X r u W h (hok r hrm) hc)
  have HR := Lib.hid hr
  have Hm := Lib.hid hm
  have hmz : m ≤ 64 := by omega
  clear HV ha0 han hr hok hl hm
  go_enter Tryz.func92, Tryz.ntmps92
  go_wp2_with fail
  have Hz : Below w.heap.size w (w.alloc (.cells #[.slice A m d, .bool rest] 41)) := (Below.refl _ _).alloc (Nat.le_refl _) _
  have hb0 : Blk (w.alloc (.cells #[.slice A m d, .bool rest] 41)) w.heap.size 41 _ := Blk.new _ _ _
  generalize (w.alloc (.cells #[.slice A m d, .bool rest] 41)) = w1 at Hz hb0 ⊢
  have k00 := hb0.cell 0
  have k10 := hb0.cell 1
  simp only [List.getElem?_toArray, List.getElem?_cons_succ, List.getElem?_cons_zero] at k00 k10
  clear hb0
  go_loopw [8] (fun z wr => ∃ i : Nat, z = .int .i64 i ∧ i ≤ m ∧ Hid (decideB rest cl a rules = decideB rest cl a (rules.drop i)) ∧ Below w1.heap.size w1 wr) (fun z _ => m - (intOf z).toNat)
  case atStart => exact ⟨0, rfl, by omega, Lib.hid rfl, Below.refl _ _⟩
  case round =>
    obtain ⟨i, rfl, hi, HD, hb⟩ := hrel
    have hbw := below_two Hz hb
    have k0 := cell_keep k00 hb
    have k1 := cell_keep k10 hb
    by_cases hlt : i < m
    · obtain ⟨r, hri⟩ : ∃ r, rules[i]? = some r := ⟨_, List.getElem?_eq_getElem (by have := Hm.out; omega)⟩
      obtain ⟨b, off, u, e, hu, x0, x1, x2, x3, x4, x5, x6, x7, x8⟩ := HR.out.at_ hri
      simp only at e
      subst e
      have y0 := x0
      replace x0 := cell_keep x0 hbw
      replace x1 := cell_keep x1 hbw
      replace x2 := cell_keep x2 hbw
      replace x3 := cell_keep x3 hbw
      replace x4 := cell_keep x4 hbw
      replace x5 := cell_keep x5 hbw
      replace x6 := cell_keep x6 hbw
      replace x7 := cell_keep x7 hbw
      replace x8 := cell_keep x8 hbw
      have HC := Lib.hid (HAp.out r u wr (hu.below hbw) (List.mem_of_getElem? hri) (hC.below hbw))
      have HDn := Lib.hid (decideB_drop (rest := rest) (c := cl) (a := a) hri)
      have Hcut := Lib.hid hu.cut
      unfold valRu at HC
      generalize appliesB r cl a = q at HC HDn
      clear hu hri
      cases q with
      | true =>
        go_wp2_with fail
        refine HC.out.mono ?_
        rintro e w3 ⟨rfl, hb3⟩
        have z0 := cell_keep k0 hb3
        have z1 := cell_keep y0 (below_two hbw hb3)
        go_wp2
        go_ret2
        exact ⟨⟨i, by rw [HV2.out, HD.out, HDn.out, Hcut.out]; rfl⟩, below_two hbw hb3⟩
      | false =>
        go_wp2_with fail
        refine HC.out.mono ?_
        rintro e w3 ⟨rfl, hb3⟩
        go_wp2
        go_roundw
        case rel => exact ⟨i + 1, by go_num, by omega, Lib.hid (by rw [HD.out, HDn.out]; rfl), below_two hb hb3⟩
        case measure => simp [intOf]; omega
    · obtain rfl : i = m := by omega
      have HE := Lib.hid (show rules.drop i = [] from List.drop_of_length_le (by have := Hm.out; omega))
      go_wp2
      go_ret2
      exact ⟨⟨-1, by rw [HV2.out, HD.out, HE.out]; rfl⟩, hbw⟩
end Go.Proofs.YtdnkignhenkamaaGreatDoor

/- -/
namespace Go.Proofs.YtdnkignhenkamaaGreatDoor
open Go.RowKit
set_option maxRecDepth 100000 in
set_option maxHeartbeats 4000000 in
theorem oBounds_any (cl : List Nat) (b0 off0 n c0 : Nat) (hl : cl.length = n) (hn : n ≤ 100000) (hc0 : n ≤ c0) (hn0 : 0 < n) (X : Nat → Prop) (rules : List RuleP) (rest : Bool) (v : Sv) (w : World) (hr : RsX w X rules v) (hok : ∀ r ∈ rules, RuleOk r) (hz : rules.length ≤ 64) (hC : Rd w 1 (some ⟨b0, off0, none⟩) (cl.map encN)) :
    Calls Tryz.prog 64 #[valRs v rest, .slice (some ⟨b0, off0, none⟩) n c0] w fun e w' => ∃ A k c, e = .returned (.slice A k c) ∧ Own w' w.heap.size 3 1 A k c ((boundsB rules rest cl).map encN) ∧ Below w.heap.size w w' := by
  obtain ⟨i0, hi0, hz0, hz1, hz2⟩ := info_parts infoInt
  have HD := Lib.hid (fun a W (ha : a ≤ n) (h : RsX W X rules v) (hc : Rd W 1 (some ⟨b0, off0, none⟩) (cl.map encN)) => oDecide_any cl b0 off0 n c0 a hl hn hc0 hn0 ha X rules rest v W h hok hz hc)
  have HV : Hid (boundsB rules rest cl = (List.range (n + 1)).filter fun i => placeB rules rest cl i) := Lib.hid (by
    unfold boundsB
    rw [if_neg (by intro e; rw [e] at hl; simp at hl; omega), hl])
  have HR := Lib.hid hr
  have HC := Lib.hid hC
  unfold valRs at HD ⊢
  clear hr hok hl hC
  go_enter Tryz.func64, Tryz.ntmps64
  go_wp2_with fail
  have Hz : Below w.heap.size w (w.alloc (.cells #[.slice v.1 v.2.1 v.2.2, .bool rest] 41)) := (Below.refl _ _).alloc (Nat.le_refl _) _
  have hb0 : Blk (w.alloc (.cells #[.slice v.1 v.2.1 v.2.2, .bool rest] 41)) w.heap.size 41 _ := Blk.new _ _ _
  generalize (w.alloc (.cells #[.slice v.1 v.2.1 v.2.2, .bool rest] 41)) = w1 at Hz hb0 ⊢
  have k00 := hb0.cell 0
  have k10 := hb0.cell 1
  simp only [List.getElem?_toArray, List.getElem?_cons_succ, List.getElem?_cons_zero] at k00 k10
  clear hb0
  go_loopw [5, 6, 7, 8] (fun u z _ _ wr => ∃ (i : Nat) (A : Option Addr) (k c : Nat), u = .slice A k c ∧ z = .int .i64 i ∧ i ≤ n + 1 ∧ k ≤ i ∧ Own wr w1.heap.size 3 1 A k c (((List.range i).filter fun i => placeB rules rest cl i).map encN) ∧ Below w1.heap.size w1 wr) (fun _ z _ _ _ => n + 1 - (intOf z).toNat)
  case atStart => exact ⟨0, none, 0, 0, rfl, rfl, by omega, by omega, Own.nil_ _ _ _ _, Below.refl _ _⟩
  case round =>
    obtain ⟨i, A, k, c, rfl, rfl, hi, hki, ho, hb⟩ := hrel
    have hsz := hb.size
    have hbw := below_two Hz hb
    have k0 := cell_keep k00 hb
    have k1 := cell_keep k10 hb
    by_cases hlt : i ≤ n
    · have HDi := Lib.hid (HD.out i wr hlt (HR.out.below hbw) (HC.out.below hbw))
      have HF := Lib.hid (filter_next (m := fun i => placeB rules rest cl i) (i := i))
      generalize placeB rules rest cl i = q at HDi HF
      cases q with
      | false =>
        go_wp2_with fail
        refine HDi.out.mono ?_
        rintro e w5 ⟨⟨x, rfl⟩, hb5⟩
        have ho5 := ho.below hb5
        go_wp2
        go_roundw
        case rel => exact ⟨i + 1, A, k, c, rfl, by go_num, by omega, by omega, by rw [HF.out]; simpa using ho5, below_two hb hb5⟩
        case measure => simp [intOf]; omega
      | true =>
        go_wp2_with fail
        refine HDi.out.mono ?_
        rintro e w5 ⟨⟨x, rfl⟩, hb5⟩
        have ho5 := ho.below hb5
        have hb15 := below_two hb hb5
        have hsz5 := hb15.size
        go_wp2_with (at_builtin; go_must (refine wpList_app rfl (.tmp 23) (.tmp 25) _ rfl w1.heap.size 3 i0 _ 1 8 Tryz.underlying23 hi0 hz0 hz1 hz2 rfl (by omega) A k c _ rfl (ho5.alloc _) _ 1 1 [encN i] rfl rfl (Rd.newAt (by simp) rfl) (encN_ok' [i]) (by unfold maxLen; omega) (by omega) (by simp; omega) ?_); intro A3 c3 w7 ho3 hg3 hA3)
        have hb7 := below_app (hb15.alloc hsz5 (.cells #[.int .i64 (i : Int)] 3)) hg3 (by simp; omega) (fun a ha => (ho5.lt a ha).1)
        go_roundw
        case rel => exact ⟨i + 1, A3, k + 1, c3, rfl, by go_num, by omega, by omega, by rw [HF.out, List.map_append]; exact ho3, hb7⟩
        case measure => simp [intOf]; omega
    · obtain rfl : i = n + 1 := by omega
      rw [← HV.out] at ho
      obtain ⟨z, hz⟩ : ∃ z, n + 1 = z := ⟨_, rfl⟩
      have ez : ((n : Int) + 1) = (z : Int) := by omega
      go_wp2
      go_ret
      exact ⟨A, k, c, rfl, ho.more Hz.size, hbw⟩
end Go.Proofs.YtdnkignhenkamaaGreatDoor

/- -/
namespace Go.Proofs.YtdnkignhenkamaaGreatDoor
open Go.RowKit Go.Maps
end Go.Proofs.YtdnkignhenkamaaGreatDoor

/- -/
namespace Go.Proofs.YtdnkignhenkamaaGreatDoor
open Go.RowKit Go.Maps
theorem getGo_hit {q : Int} {i : Nat} {s : List (Int × Int)} {S : List (List (Int × Int))} (h : hasB s q = true) : getGo q i (s :: S) = i := by unfold getGo; rw [if_pos h]
theorem getGo_miss {q : Int} {i : Nat} {s : List (Int × Int)} {S : List (List (Int × Int))} (h : hasB s q = false) : getGo q i (s :: S) = getGo q (i + 1) S := by conv => lhs; unfold getGo; rw [if_neg (by rw [h]; simp)]
set_option maxRecDepth 100000 in
set_option maxHeartbeats 4000000 in
theorem vGet_any (base p x : Nat) (d : DbP) (r : Int) (w : World) (h : RfB w base p x d.names d.full) (ho : d.Ok) (hap : Apart d.sets) :
    Calls Tryz.prog 25 #[.pointer (some ⟨p, 0, none⟩), .int .i32 r] w fun e w' => e = .returned (.int .i64 (d.get r : Nat)) ∧ w = w' := by
  obtain ⟨An, nn, cn, As, ns, cs, xs, hX⟩ := h.ex
  have hls := hX.lenS
  have hfl := full_len ho
  have hn0 : 0 < ns := by
    have h3 := ho.head
    cases hd : d.names with
    | nil => rw [hd] at h3; cases h3
    | cons a b => rw [hd] at hfl; simp at hfl; omega
  have hn64 : ns ≤ 64 := by have := ho.few; omega
  obtain ⟨g, rfl, _, _⟩ := hX.hs.form hn0
  have c1 := hX.blk.cell 1
  simp only [List.getElem?_toArray, List.getElem?_cons_zero, List.getElem?_cons_succ] at c1
  have HF := Lib.hid (fun i s (hi : d.full[i]? = some s) => full_small ho hap hi)
  have HG : Hid (d.get r = getGo (askR r) 1 d.full.tail) := rfl
  have Hls := Lib.hid (show d.full.length = ns from hls.2)
  have hcase : (r < 0 ∧ askR r = 65533) ∨ (¬ r < 0 ∧ 1114111 < r ∧ askR r = 65533) ∨ (¬ r < 0 ∧ ¬ 1114111 < r ∧ askR r = r) := by
    unfold askR; split <;> omega
  obtain ⟨q, hq⟩ : ∃ q, askR r = q := ⟨_, rfl⟩
  rw [hq] at HG hcase
  clear ho hap h hfl hq
  rcases hcase with ⟨h1, rfl⟩ | ⟨h1, h2, rfl⟩ | ⟨h1, h2, rfl⟩
  · go_enter Tryz.func25, Tryz.ntmps25
    go_wp2_with fail
    go_loopw [5] (fun v wr => ∃ k : Nat, v = .int .i64 (k + 1 : Nat) ∧ k + 1 ≤ ns ∧ wr = w ∧ Hid (d.get r = getGo 65533 (k + 1) (d.full.tail.drop k))) (fun v _ => ns - (intOf v).toNat)
    case atStart => exact ⟨0, rfl, by omega, rfl, by rw [List.drop_zero]; exact HG⟩
    case round =>
      obtain ⟨k, rfl, hk, rfl, HK⟩ := hrel
      by_cases hlt : k + 1 < ns
      · obtain ⟨s, Hs⟩ : ∃ s, Hid (d.full[k + 1]? = some s) := ⟨_, Lib.hid (List.getElem?_eq_getElem (show k + 1 < d.full.length by have := Hls.out; omega))⟩
        obtain ⟨⟨yA, yn, yc⟩, Hy⟩ : ∃ y, Hid (xs[k + 1]? = some y) := ⟨_, Lib.hid (List.getElem?_eq_getElem (show k + 1 < xs.length by omega))⟩
        have hoy : Own wr base 110 2 yA yn yc (s.map encR) := hX.hx.own (k + 1) (yA, yn, yc) s Hy.out Hs.out
        have hly : s.length = yn := by simpa using hoy.len
        have hsm := HF.out _ s Hs.out
        have hcell := hX.hs.cell' rfl Hy.out
        have HH := Lib.hid (sHas_any yA yn yc s 65533 wr (hoy.rd (by omega)) hly (by omega))
        have HD := Lib.hid (drop_at (show d.full.tail[k]? = some s by rw [List.getElem?_tail]; exact Hs.out))
        have hI : (k : Int) + 1 < ns := by omega
        rw [HD.out] at HK
        cases hv : hasB s 65533 with
        | true =>
          have HE := Lib.hid (HK.out.trans (getGo_hit hv))
          rw [hv] at HH
          clear hv hly
          go_wp2_with (go_at_call 69; refine HH.out.mono ?_; rintro e w2 ⟨rfl, rfl⟩)
          go_ret
          exact ⟨by rw [HE.out]; rfl, rfl⟩
        | false =>
          have HE := Lib.hid (HK.out.trans (getGo_miss hv))
          rw [hv] at HH
          clear hv hly
          go_wp2_with (go_at_call 69; refine HH.out.mono ?_; rintro e w2 ⟨rfl, rfl⟩)
          go_roundw
          case rel => exact ⟨k + 1, by go_num, by omega, by first | rfl | trivial, HE⟩
          case measure => simp [intOf]; omega
      · have HE : Hid (d.get r = 0) := Lib.hid (by rw [HK.out, List.drop_of_length_le (by rw [List.length_tail]; have := Hls.out; omega)]; rfl)
        obtain rfl : k + 1 = ns := by omega
        go_wp2
        go_ret
        exact ⟨by rw [HE.out]; rfl, rfl⟩
  · go_enter Tryz.func25, Tryz.ntmps25
    go_wp2_with fail
    go_loopw [5] (fun v wr => ∃ k : Nat, v = .int .i64 (k + 1 : Nat) ∧ k + 1 ≤ ns ∧ wr = w ∧ Hid (d.get r = getGo 65533 (k + 1) (d.full.tail.drop k))) (fun v _ => ns - (intOf v).toNat)
    case atStart => exact ⟨0, rfl, by omega, rfl, by rw [List.drop_zero]; exact HG⟩
    case round =>
      obtain ⟨k, rfl, hk, rfl, HK⟩ := hrel
      by_cases hlt : k + 1 < ns
      · obtain ⟨s, Hs⟩ : ∃ s, Hid (d.full[k + 1]? = some s) := ⟨_, Lib.hid (List.getElem?_eq_getElem (show k + 1 < d.full.length by have := Hls.out; omega))⟩
        obtain ⟨⟨yA, yn, yc⟩, Hy⟩ : ∃ y, Hid (xs[k + 1]? = some y) := ⟨_, Lib.hid (List.getElem?_eq_getElem (show k + 1 < xs.length by omega))⟩
        have hoy : Own wr base 110 2 yA yn yc (s.map encR) := hX.hx.own (k + 1) (yA, yn, yc) s Hy.out Hs.out
        have hly : s.length = yn := by simpa using hoy.len
        have hsm := HF.out _ s Hs.out
        have hcell := hX.hs.cell' rfl Hy.out
        have HH := Lib.hid (sHas_any yA yn yc s 65533 wr (hoy.rd (by omega)) hly (by omega))
        have HD := Lib.hid (drop_at (show d.full.tail[k]? = some s by rw [List.getElem?_tail]; exact Hs.out))
        have hI : (k : Int) + 1 < ns := by omega
        rw [HD.out] at HK
        cases hv : hasB s 65533 with
        | true =>
          have HE := Lib.hid (HK.out.trans (getGo_hit hv))
          rw [hv] at HH
          clear hv hly
          go_wp2_with (go_at_call 69; refine HH.out.mono ?_; rintro e w2 ⟨rfl, rfl⟩)
          go_ret
          exact ⟨by rw [HE.out]; rfl, rfl⟩
        | false =>
          have HE := Lib.hid (HK.out.trans (getGo_miss hv))
          rw [hv] at HH
          clear hv hly
          go_wp2_with (go_at_call 69; refine HH.out.mono ?_; rintro e w2 ⟨rfl, rfl⟩)
          go_roundw
          case rel => exact ⟨k + 1, by go_num, by omega, by first | rfl | trivial, HE⟩
          case measure => simp [intOf]; omega
      · have HE : Hid (d.get r = 0) := Lib.hid (by rw [HK.out, List.drop_of_length_le (by rw [List.length_tail]; have := Hls.out; omega)]; rfl)
        obtain rfl : k + 1 = ns := by omega
        go_wp2
        go_ret
        exact ⟨by rw [HE.out]; rfl, rfl⟩
  · go_enter Tryz.func25, Tryz.ntmps25
    go_wp2_with fail
    go_loopw [5] (fun v wr => ∃ k : Nat, v = .int .i64 (k + 1 : Nat) ∧ k + 1 ≤ ns ∧ wr = w ∧ Hid (d.get q = getGo q (k + 1) (d.full.tail.drop k))) (fun v _ => ns - (intOf v).toNat)
    case atStart => exact ⟨0, rfl, by omega, rfl, by rw [List.drop_zero]; exact HG⟩
    case round =>
      obtain ⟨k, rfl, hk, rfl, HK⟩ := hrel
      by_cases hlt : k + 1 < ns
      · obtain ⟨s, Hs⟩ : ∃ s, Hid (d.full[k + 1]? = some s) := ⟨_, Lib.hid (List.getElem?_eq_getElem (show k + 1 < d.full.length by have := Hls.out; omega))⟩
        obtain ⟨⟨yA, yn, yc⟩, Hy⟩ : ∃ y, Hid (xs[k + 1]? = some y) := ⟨_, Lib.hid (List.getElem?_eq_getElem (show k + 1 < xs.length by omega))⟩
        have hoy : Own wr base 110 2 yA yn yc (s.map encR) := hX.hx.own (k + 1) (yA, yn, yc) s Hy.out Hs.out
        have hly : s.length = yn := by simpa using hoy.len
        have hsm := HF.out _ s Hs.out
        have hcell := hX.hs.cell' rfl Hy.out
        have HH := Lib.hid (sHas_any yA yn yc s q wr (hoy.rd (by omega)) hly (by omega))
        have HD := Lib.hid (drop_at (show d.full.tail[k]? = some s by rw [List.getElem?_tail]; exact Hs.out))
        have hI : (k : Int) + 1 < ns := by omega
        rw [HD.out] at HK
        cases hv : hasB s q with
        | true =>
          have HE := Lib.hid (HK.out.trans (getGo_hit hv))
          rw [hv] at HH
          clear hv hly
          go_wp2_with (go_at_call 69; refine HH.out.mono ?_; rintro e w2 ⟨rfl, rfl⟩)
          go_ret
          exact ⟨by rw [HE.out]; rfl, rfl⟩
        | false =>
          have HE := Lib.hid (HK.out.trans (getGo_miss hv))
          rw [hv] at HH
          clear hv hly
          go_wp2_with (go_at_call 69; refine HH.out.mono ?_; rintro e w2 ⟨rfl, rfl⟩)
          go_roundw
          case rel => exact ⟨k + 1, by go_num, by omega, by first | rfl | trivial, HE⟩
          case measure => simp [intOf]; omega
      · have HE : Hid (d.get q = 0) := Lib.hid (by rw [HK.out, List.drop_of_length_le (by rw [List.length_tail]; have := Hls.out; omega)]; rfl)
        obtain rfl : k + 1 = ns := by omega
        go_wp2
        go_ret
        exact ⟨by rw [HE.out]; rfl, rfl⟩
end Go.Proofs.YtdnkignhenkamaaGreatDoor

/- -/
namespace Go.Proofs.YtdnkignhenkamaaGreatDoor
open Go.RowKit Go.Maps
set_option maxRecDepth 100000 in
set_option maxHeartbeats 4000000 in
theorem vOf_any (base p x : Nat) (d : DbP) (s : ByteArray) (w : World) (h : RfB w base p x d.names d.full) (ho : d.Ok) (ha : Apart d.sets) (hs : s.size ≤ 1000000) :
    Calls Tryz.prog 65 #[.pointer (some ⟨p, 0, none⟩), .string s] w fun e w' => ∃ A n c, e = .returned (.slice A n c) ∧ Own w' w.heap.size 3 1 A n c ((ofC d s).map encN) ∧ Below w.heap.size w w' := by
  obtain ⟨i0, hi0, hz0, hz1, hz2⟩ := info_parts infoInt
  have HD := Lib.hid (And.intro h (And.intro ho ha))
  clear h ho ha
  go_enter Tryz.func65, Tryz.ntmps65
  go_wp2
  go_loopw [5] (fun v wr => ∃ (q f : Nat) (A1 : Option Addr) (n1 c1 : Nat) (o : List Nat), v = .slice A1 n1 c1 ∧ wr.heap[w.heap.size]? = some (.stringIter s q) ∧ Own wr (w.heap.size + 1) 3 1 A1 n1 c1 (o.map encN) ∧
      n1 ≤ q ∧ q ≤ s.size ∧ Hid (OfCAt d s f q o) ∧ Below w.heap.size w wr) (fun _ wr => s.size - wr.iterPos w.heap.size)
  case atStart => exact ⟨0, s.size, none, 0, 0, [], rfl, iter_new _ _ _, Own.nil_ _ _ _ _, by omega, by omega, ofCAt_first d s, below_iter (Below.refl _ _) (Nat.le_refl _) _ _⟩
  case round =>
    obtain ⟨q, f, A1, n1, c1, o, rfl, hit, ho, hn1, hps, HR, hb⟩ := hrel
    have hsz : w.heap.size < wr.heap.size := (Array.getElem?_eq_some_iff.1 hit).1
    have Hpos := Lib.hid (iterPos_of hit)
    by_cases hp : q < s.size
    · obtain ⟨⟨R, W⟩, HDc⟩ : ∃ d, Utf8.decode s q = d := ⟨_, rfl⟩
      have hd := dec_bd s q hp
      have hnx : ∀ ty, (Instr.next (.pointer (some ⟨w.heap.size, 0, none⟩)) true ty).run Tryz.prog wr = _ := fun ty => Lib.run_next_any_at wr w.heap.size s q ty hit hp
      have hit2 := Lib.iterAt_heap wr w.heap.size s q (q + (Utf8.decode s q).2) hit
      have hb2 := Lib.below_iterAt hb (k := w.heap.size) (Nat.le_refl _) s (q + (Utf8.decode s q).2)
      have ho2 := ho.iterAt (k := w.heap.size) (by omega) s (q + (Utf8.decode s q).2)
      have hsz2 : w.heap.size < (wr.iterAt w.heap.size s (q + (Utf8.decode s q).2)).heap.size := by rw [Lib.iterAt_size]; exact hsz
      rw [HDc] at hd hnx hit2 hb2 ho2 hsz2
      simp only at hd hnx hit2 hb2 ho2 hsz2
      obtain ⟨g, HA⟩ := ofCAt_add HR.out hp HDc (by omega)
      have HA := Lib.hid HA
      clear HR HDc
      generalize wr.iterAt w.heap.size s (q + W) = w2 at hnx hit2 hb2 ho2 hsz2
      have HG := Lib.hid (vGet_any base p x d R w2 (HD.out.1.below hb2) HD.out.2.1 HD.out.2.2)
      clear ho hb hit hsz
      go_wp2_with (first | (go_at_call 25; refine HG.out.mono ?_; rintro e w4 ⟨rfl, rfl⟩; have hit4 := hit2; have ho4 := ho2; have hbb := hb2; have hsz4 := hsz2) | (at_builtin; go_must (refine wpList_app rfl (.tmp 13) (.tmp 17) _ rfl (w.heap.size + 1) 3 i0 _ 1 8 Tryz.underlying23 hi0 hz0 hz1 hz2 rfl (by omega) A1 n1 c1 (o.map encN) rfl (ho4.alloc _) _ 1 1 [encN (d.get R)] rfl rfl (Rd.newAt (by simp) rfl) (encN_ok [d.get R]) (by unfold maxLen; omega) (by omega) (by simp; omega) ?_); intro A3 c3 w3 ho3 hg3 hA3; have hit3 := hg3.block w.heap.size (by simp; omega) (fun e => by cases A1 with | none => simp at e | some a => have := (ho4.lt a rfl).1; simp at e; omega); have hb3 := below_app (hbb.alloc (by omega) _) hg3 (by simp; omega) (fun a ha => by have := (ho4.lt a ha).1; omega); clear hg3))
      have hit5 : w3.heap[w.heap.size]? = some (.stringIter s (q + W)) := hit3.trans ((Below.heap_alloc _ _ _ hsz4).trans hit4)
      have Ho3 : Own w3 (w.heap.size + 1) 3 1 A3 (n1 + 1) c3 ((o ++ [d.get (R : Int)]).map encN) := by rw [List.map_append]; exact ho3
      clear hit3 ho3
      go_roundw
      case rel => exact ⟨q + W, g, A3, n1 + 1, c3, o ++ [d.get (R : Int)], rfl, hit5, Ho3, by omega, by omega, HA, hb3⟩
      case measure => rw [iterPos_of hit5, Hpos.out]; omega
    · have hnx : ∀ ty, (Instr.next (.pointer (some ⟨w.heap.size, 0, none⟩)) true ty).run Tryz.prog wr = _ := fun ty => Lib.run_next_end_at wr w.heap.size s q ty hit hp
      have HE := Lib.hid (ofCAt_end HR.out hp)
      go_wp2
      go_ret
      exact ⟨A1, n1, c1, rfl, by rw [← HE.out]; exact ho.more (by omega), hb⟩
end Go.Proofs.YtdnkignhenkamaaGreatDoor

/- -/
namespace Go.Proofs.YtdnkignhenkamaaGreatDoor
open Go.RowKit
structure BrkB (w : World) (base pb : Nat) (d : DbP) (rules : List RuleP) (rest : Bool) : Prop where
  ex : ∃ (p x n c : Nat) (A : Option Addr) (X : Nat → Prop), Blk w pb 43 #[.pointer (some ⟨p, 0, none⟩), .slice A n c, .bool rest] ∧ RfB w base p x d.names d.full ∧ RsX w X rules (A, n, c)
theorem BrkB.below {w w' : World} {base pb : Nat} {d : DbP} {rules : List RuleP} {rest : Bool} (h : BrkB w base pb d rules rest) (hb : Below w.heap.size w w') : BrkB w' base pb d rules rest := by
  obtain ⟨p, x, n, c, A, X, h1, h2, h3⟩ := h.ex
  exact ⟨p, x, n, c, A, X, h1.below hb, h2.below hb, h3.below hb⟩
theorem boundsB_len (rules : List RuleP) (rest : Bool) (c : List Nat) : (boundsB rules rest c).length ≤ c.length + 1 := by
  unfold boundsB
  split
  · simp
  · refine Nat.le_trans (List.length_filter_le _ _) ?_
    rw [List.length_range]; omega
theorem boundsB_lt {rules : List RuleP} {rest : Bool} {c : List Nat} {i x : Nat} (h : (boundsB rules rest c)[i]? = some x) : x ≤ c.length := by
  unfold boundsB at h
  split at h
  · simp at h
  · have := (List.mem_filter.1 (List.mem_of_getElem? h)).1
    rw [List.mem_range] at this
    omega
set_option maxRecDepth 100000 in
set_option maxHeartbeats 4000000 in
theorem bBounds_any (base pb : Nat) (d : DbP) (rules : List RuleP) (rest : Bool) (s : ByteArray) (w : World) (hB : BrkB w base pb d rules rest) (ho : d.Ok) (ha : Apart d.sets) (hok : ∀ r ∈ rules, RuleOk r) (hz : rules.length ≤ 64) (hs : s.size ≤ 90000) :
    Calls Tryz.prog 18 #[.pointer (some ⟨pb, 0, none⟩), .string s] w fun e w' => ∃ A k c, e = .returned (.slice A k c) ∧ Own w' w.heap.size 3 1 A k c ((boundsR rules rest d.get s).map encN) ∧ Below w.heap.size w w' := by
  obtain ⟨i0, hi0, hz0, hz1, hz2⟩ := info_parts infoInt
  by_cases h0 : s.size = 0
  · have HV := Lib.hid (show boundsR rules rest d.get s = [] from if_pos h0)
    have t0 : ((s.size : Int) == 0) = true := by rw [h0]; rfl
    rw [HV.out]
    clear h0
    go_enter Tryz.func18, Tryz.ntmps18
    go_wp2
    go_ret
    exact ⟨none, 0, 0, rfl, Own.nil_ _ _ _ _, Below.refl _ _⟩
  have t0 : ((s.size : Int) == 0) = false := beq_eq_false_iff_ne.2 (by omega)
  obtain ⟨p, x, n, c, A, X, hb, hd, hr⟩ := hB.ex
  have HE := Lib.hid (tEdges_any s w (by omega))
  obtain ⟨cl, HCl⟩ : ∃ cl, Hid (ofC d s = cl) := ⟨_, Lib.hid rfl⟩
  have hcz : cl.length ≤ 90000 := by rw [← HCl.out]; unfold ofC; rw [List.length_map]; exact Nat.le_trans (runesP_len s) hs
  have hc0 : 0 < cl.length := by
    rw [← HCl.out]; unfold ofC; rw [List.length_map]
    obtain ⟨k, hk1, hk2⟩ := runesGo_step (s := s) (f := s.size) (a := 0) (by omega) (by omega)
    unfold runesP
    rw [hk2]; simp
  have HV : Hid (boundsR rules rest d.get s = (boundsB rules rest cl).map fun i => (edgesP s).getD i 0) := Lib.hid (by rw [← HCl.out]; exact if_neg h0)
  have hel : (edgesP s).length = cl.length + 1 := by rw [← HCl.out]; unfold edgesP ofC; simp
  have HO := Lib.hid (fun W (h : Below w.heap.size w W) => vOf_any base p x d s W (hd.below h) ho ha (by omega))
  rw [HCl.out] at HO
  have HBo := Lib.hid (fun W b0 off0 c0 (h : Below w.heap.size w W) (hcc : cl.length ≤ c0) (hc : Rd W 1 (some ⟨b0, off0, none⟩) (cl.map encN)) => oBounds_any cl b0 off0 cl.length c0 rfl (by omega) hcc hc0 X rules rest (A, n, c) W (hr.below h) hok hz hc)
  unfold valRs at HBo
  have d0 := hb.cell 0
  have d1 := hb.cell 1
  have d2 := hb.cell 2
  simp only [List.getElem?_toArray, List.getElem?_cons_succ, List.getElem?_cons_zero] at d0 d1 d2
  have HD := Lib.hid (fun W (h : Below w.heap.size w W) => And.intro (cell_keep d0 h) (And.intro (cell_keep d1 h) (cell_keep d2 h)))
  obtain ⟨m, Hm⟩ : ∃ m, Hid (cl.length = m) := ⟨_, Lib.hid rfl⟩
  rw [Hm.out] at hcz hc0 HBo hel
  have Hel := Lib.hid hel
  clear h0 hB hb hd hr hel d0 d1 d2
  go_enter Tryz.func18, Tryz.ntmps18
  go_wp2_with fail
  refine HE.out.mono ?_
  rintro e w2 ⟨A2, k2, c2, rfl, ho2, hb2⟩
  obtain ⟨d0, d1, d2⟩ := HD.out w2 hb2
  have hb2d := hb2.drew
  have hk2 : (edgesP s).length = k2 := own_empty ho2
  have HEo := Lib.hid ho2
  have Hk2 := Lib.hid (show k2 = m + 1 by have := Hel.out; omega)
  clear HE ho2 hk2
  go_upto_region 4 with fail
  go_cut [6] from 14 to 24 (fun v wx => ∃ (A : Option Addr) (k c : Nat), v = .slice A k c ∧ Own wx w2.heap.size 3 1 A k c ((boundsB rules rest cl).map encN) ∧ Below w2.heap.size w2 wx)
  case first =>
    refine wp_region_noPanic ?_
    have hbW : Below w2.heap.size w2 w2.drew := (Below.refl _ _).drew
    go_region_law (first
      | (go_simp; go_at_call 65; refine (HO.out w2.drew hb2d).mono ?_; rintro e w4 ⟨A4, k4, c4, rfl, ho4, hb4⟩; have hbW := below_step hbW hb4 hbW.size; have d0 := cell_keep d0 hbW; have d1 := cell_keep d1 hbW; have d2 := cell_keep d2 hbW; obtain ⟨g4, rfl, hg4, hg5⟩ := ho4.form (by have := own_empty ho4; have := Hm.out; omega); obtain rfl : m = k4 := by (have := own_empty ho4; have := Hm.out; omega))
      | (go_simp; go_at_call 64; refine (HBo.out w4 g4 0 c4 (below_step hb2 hbW hb2.size) ho4.cap.1 (ho4.rd (by omega))).mono ?_; rintro e w5 ⟨A5, k5, c5, rfl, ho5, hb5⟩))
    all_goals
      refine NoPanic.normal ?_
      have hb25 := below_step hbW hb5 hbW.size
      have ho6 := ho5.more hbW.size
      go_wp2_with fail
      go_meet
      exact ⟨A5, k5, c5, rfl, ho6, hb25⟩
  case rest =>
    clear d0 d1 d2 hb2d HO HBo HD
    obtain ⟨A5, k5, c5, rfl, ho5, hb5⟩ := hcut
    have hbw5 := below_two hb2 hb5
    have hk5 : (boundsB rules rest cl).length = k5 := own_empty ho5
    have hrb := ho5.rd (by decide)
    have hre := (HEo.out.below hb5).rd (by decide)
    have HL := Lib.hid (fun i x (h : (boundsB rules rest cl)[i]? = some x) => boundsB_lt h)
    have hk5z : k5 ≤ 90001 := by have h1 := boundsB_len rules rest cl; have := Hm.out; omega
    rw [Hm.out] at HL
    generalize boundsB rules rest cl = BL at HL HV hrb hk5
    have Hk5 := Lib.hid hk5
    clear ho5 hk5
    go_wp2_with fail
    go_loopw [7, 8] (fun u v wr => ∃ (i k : Nat) (A1 : Option Addr), u = .slice A1 i k ∧ v = .int .i64 i ∧ i ≤ k5 ∧ Own wr wc.heap.size 3 1 A1 i k (((BL.take i).map fun i => (edgesP s).getD i 0).map encN) ∧ Below wc.heap.size wc wr) (fun _ v _ => k5 - (intOf v).toNat)
    case atStart => exact ⟨0, 0, none, rfl, rfl, by omega, Own.nil_ _ _ _ _, Below.refl _ _⟩
    case round =>
      obtain ⟨i, k, A1, rfl, rfl, hi, ho, hb⟩ := hrel
      have hsz := hb.size
      by_cases hlt : i < k5
      · obtain ⟨y, Hy⟩ : ∃ y, Hid (BL[i]? = some y) := ⟨_, Lib.hid (List.getElem?_eq_getElem (by have := Hk5.out; omega))⟩
        have hym := HL.out i y Hy.out
        obtain ⟨z, Hz⟩ : ∃ z, Hid ((edgesP s)[y]? = some z) := ⟨_, Lib.hid (List.getElem?_eq_getElem (by have := Hel.out; omega))⟩
        obtain ⟨b1, o1, rfl, x1⟩ := hrb.atNa Hy.out
        obtain ⟨b2, o2, rfl, x2⟩ := hre.atNa Hz.out
        replace x1 := cell_keep x1 hb
        replace x2 := cell_keep x2 hb
        have hyk : y < k2 := by have := Hk2.out; omega
        have HT := Lib.hid (show ((BL.take (i + 1)).map fun i => (edgesP s).getD i 0) = ((BL.take i).map fun i => (edgesP s).getD i 0) ++ [z] by
          rw [List.take_add_one, Hy.out, Option.toList_some, List.map_append]
          simp [List.getD_eq_getElem?_getD, Hz.out])
        go_wp2_with (at_builtin; go_must (refine wpList_app rfl (.tmp 31) (.tmp 39) _ rfl wc.heap.size 3 i0 _ 1 8 Tryz.underlying23 hi0 hz0 hz1 hz2 rfl (by omega) A1 i k _ rfl (ho.alloc _) _ 1 1 [encN z] rfl rfl (Rd.newAt (by simp) rfl) (encN_ok' [z]) (by unfold maxLen; omega) (by omega) (by simp; omega) ?_); intro A3 c3 w7 ho3 hg3 hA3)
        have hb7 := below_app (hb.alloc hsz (.cells #[.int .i64 (z : Int)] 3)) hg3 (by simp; omega) (fun a ha => (ho.lt a ha).1)
        go_roundw
        case rel => exact ⟨i + 1, c3, A3, rfl, by go_num, by omega, by rw [HT.out, List.map_append]; exact ho3, hb7⟩
        case measure => simp [intOf]; omega
      · obtain rfl : i = k5 := by omega
        have HT := Lib.hid (show BL.take i = BL from List.take_of_length_le (by have := Hk5.out; omega))
        rw [HT.out] at ho
        go_wp2
        go_ret
        exact ⟨A1, i, k, rfl, by rw [HV.out]; exact ho.more hbw5.size, below_two hbw5 hb⟩
end Go.Proofs.YtdnkignhenkamaaGreatDoor

/- -/
namespace Go.Proofs.YtdnkignhenkamaaGreatDoor
open Go.RowKit Go.Maps
theorem ret_pair {a b c d : Value} (h1 : a = c) (h2 : b = d) : Ending.returned (.tuple #[a, b]) = .returned (.tuple #[c, d]) := by rw [h1, h2]
set_option maxRecDepth 100000 in
set_option maxHeartbeats 2000000 in
theorem vcut_any (L : List UInt8) (w : World) (hL : L.length ≤ 1000000) :
    Calls Tryz.prog 133 #[.string (bytesOf L)] w fun e w' => e = .returned (.tuple #[.string (bytesOf (L.take (hashP L))), .int .i64 (fv (findP 59 (L.take (hashP L))))]) ∧ Below w.heap.size w w' := by
  have HIS := Lib.hid (cutD_is L)
  have hsz : (bytesOf L).size = L.length := bytesOf_size L
  go_enter Tryz.func133, Tryz.ntmps133
  go_wp2
  go_loopw [4, 5] (fun a v wr => ∃ (semi : Option Nat) (i : Nat), a = .int .i64 (fv semi) ∧ v = .int .i64 i ∧ i ≤ L.length ∧ Hid (CutAt L i semi) ∧ Below w.heap.size w wr) (fun _ v _ => L.length - (intOf v).toNat)
  case atStart => exact ⟨none, 0, rfl, rfl, by omega, cutAt_first L, Below.refl _ _⟩
  case round =>
    obtain ⟨semi, i, rfl, rfl, hi, HC, hb⟩ := hrel
    by_cases hlt : i < L.length
    · have HQ := Lib.hid (sQuoted_any (bytesOf L) i wr (by omega) (by omega))
      have hqq := quoted_qt (bytesOf L) i (by omega)
      rw [bytesOf_list] at hqq
      have hp : i < (bytesOf L).size := by omega
      have hix := index_at (bytesOf L) i i rfl hp
      obtain ⟨x, hx⟩ : ∃ x, (bytesOf L)[i]'hp = x := ⟨_, rfl⟩
      have Hx : Hid (L[i]? = some x) := Lib.hid (by have := get_list hp; rw [bytesOf_list, hx] at this; exact this)
      have hgi : (((bytesOf L)[i]'hp).toNat : Int) = (x.toNat : Int) := by rw [hx]
      rw [hx] at hix
      clear hx
      cases hq : qtL (L.drop i) with
      | some k =>
        rw [hq] at hqq
        obtain ⟨q1, q2⟩ := hqq
        have HC' := Lib.hid (cutAt_qt HC.out hq)
        have hik : i + k ≤ L.length := HC'.out.1
        generalize quotedP (bytesOf L) i = Q at HQ q1 q2
        obtain ⟨r, wd, ok⟩ := Q
        simp only at q1 q2
        subst q1
        have hk3 := (qtL_some hq).1
        clear hq
        go_wp2_with (go_at_call 170; refine HQ.out.mono ?_; rintro e w2 ⟨rfl, hb2⟩)
        go_roundw
        case rel => exact ⟨semi, i + k, rfl, by go_num, hik, HC', below_step hb hb2 hb.size⟩
        case measure => simp [intOf]; omega
      | none =>
        rw [hq] at hqq
        generalize quotedP (bytesOf L) i = Q at HQ hqq
        obtain ⟨r, wd, ok⟩ := Q
        simp only at hqq
        subst hqq
        have h35 : x = 35 ↔ (x.toNat : Int) = 35 := by have h1 : x = 35 ↔ x.toNat = 35 := u8_eq (n := 35) (by omega); rw [h1]; omega
        have h59 : x = 59 ↔ (x.toNat : Int) = 59 := by have h1 : x = 59 ↔ x.toNat = 59 := u8_eq (n := 59) (by omega); rw [h1]; omega
        have HH := Lib.hid (fun h => cutAt_hash HC.out Hx.out hq (h35.2 h))
        have HS := Lib.hid (fun h hs => cutAt_semi HC.out Hx.out hq (h59.2 h) hs)
        have HGo := Lib.hid (fun (h : ¬ (x.toNat : Int) = 35) (hs : ¬ ((x.toNat : Int) = 59 ∧ semi = none)) => cutAt_go HC.out Hx.out hq (fun k => h (h35.1 k)) (fun k => hs ⟨h59.1 k.1, k.2⟩))
        generalize (x.toNat : Int) = z at hix hgi HH HS HGo
        clear h35 h59 hq
        rcases (by omega : z = 35 ∨ z = 59 ∨ (z ≠ 35 ∧ z ≠ 59)) with hz | hz | ⟨hz, hz'⟩
        · have HE := HH.out hz
          rw [HIS.out] at HE
          injection HE with HE1 HE2
          have HE1 := Lib.hid HE1
          have HE2 := Lib.hid HE2
          have hzz : (z == 35) = true := by rw [hz]; rfl
          clear hz HH HS HGo
          go_wp2_with (go_at_call 170; refine HQ.out.mono ?_; rintro e w2 ⟨rfl, hb2⟩)
          go_ret2
          have h1 := ext_bytes0 L i
          rw [← HE1.out] at h1
          exact ⟨ret_pair (congrArg Value.string (by first | exact h1 | (rw [HE1.out] at h1 ⊢; exact h1) | rfl)) (congrArg (Value.int .i64) (by rw [HE2.out])), below_step hb hb2 hb.size⟩
        · have hzz : (z == 35) = false := by rw [hz]; rfl
          have hzy : (z == 59) = true := by rw [hz]; rfl
          cases semi with
          | none =>
            have HC' := Lib.hid (HS.out hz rfl)
            have hfn : decide (fv none < 0) = true := rfl
            clear hz HH HS HGo
            go_wp2_with (go_at_call 170; refine HQ.out.mono ?_; rintro e w2 ⟨rfl, hb2⟩)
            go_roundw
            case rel => exact ⟨some i, i + 1, rfl, by go_num, by omega, HC', below_step hb hb2 hb.size⟩
            case measure => simp [intOf]; omega
          | some k =>
            have HC' := Lib.hid (HGo.out (by omega) (fun h => by cases h.2))
            have hfn : decide (fv (some k) < 0) = false := decide_eq_false (by simp only [fv]; omega)
            clear hz HH HS HGo
            go_wp2_with (go_at_call 170; refine HQ.out.mono ?_; rintro e w2 ⟨rfl, hb2⟩)
            go_roundw
            case rel => exact ⟨some k, i + 1, rfl, by go_num, by omega, HC', below_step hb hb2 hb.size⟩
            case measure => simp [intOf]; omega
        · have hzz : (z == 35) = false := beq_eq_false_iff_ne.2 hz
          have hzy : (z == 59) = false := beq_eq_false_iff_ne.2 hz'
          have HC' := Lib.hid (HGo.out hz (fun h => hz' h.1))
          clear hz hz' HH HS HGo
          go_wp2_with (go_at_call 170; refine HQ.out.mono ?_; rintro e w2 ⟨rfl, hb2⟩)
          go_roundw
          case rel => exact ⟨semi, i + 1, rfl, by go_num, by omega, HC', below_step hb hb2 hb.size⟩
          case measure => simp [intOf]; omega
    · have HE := cutAt_end HC.out hlt
      rw [HIS.out] at HE
      injection HE with HE1 HE2
      have HE1 := Lib.hid HE1
      have HE2 := Lib.hid HE2
      go_wp2
      go_ret2
      exact ⟨ret_pair (congrArg Value.string (by rw [HE1.out, List.take_length]; try rfl)) (by rw [HE2.out]; try rfl), hb⟩
end Go.Proofs.YtdnkignhenkamaaGreatDoor

/- -/
namespace Go.Proofs.YtdnkignhenkamaaGreatDoor
open Go.RowKit Go.Maps
def hitR (x y : Int × Int) : Bool := decide (x.1 ≤ y.2) && decide (y.1 ≤ x.2)
theorem meetB_any (a b : List (Int × Int)) : meetB a b = a.any fun x => b.any fun y => hitR x y := rfl
theorem any_next {α : Type} {l : List α} {i : Nat} {x : α} {f : α → Bool} (h : (l.take i).any f = false) (hx : l[i]? = some x) (hf : f x = false) : (l.take (i + 1)).any f = false := by
  rw [List.take_add_one, hx]; simp [List.any_append, h, hf]
theorem any_hit {α : Type} {l : List α} {i : Nat} {x : α} {f : α → Bool} (hx : l[i]? = some x) (hf : f x = true) : l.any f = true := List.any_eq_true.2 ⟨x, List.mem_of_getElem? hx, hf⟩
theorem any_all {α : Type} {l : List α} {i : Nat} {f : α → Bool} (h : (l.take i).any f = false) (hi : ¬ i < l.length) : l.any f = false := by rwa [List.take_of_length_le (by omega)] at h
set_option maxRecDepth 100000 in
set_option maxHeartbeats 2000000 in
theorem vmeet_any (A B : Option Addr) (n c m e : Nat) (l q : List (Int × Int)) (w : World) (hA : Rd w 2 A (l.map encR)) (hB : Rd w 2 B (q.map encR)) (hl : l.length = n) (hq : q.length = m) (hn : n ≤ 4000000) (hm : m ≤ 4000000) :
    Calls Tryz.prog 139 #[.slice A n c, .slice B m e] w fun e w' => e = .returned (.bool (meetB l q)) ∧ ∃ k, w' = w.drewN k := by
  have Hl := Lib.hid hl
  have Hq := Lib.hid hq
  have HMB := Lib.hid (meetB_any l q)
  go_enter Tryz.func139, Tryz.ntmps139
  go_wp2
  go_loopw [5] (fun v wr => ∃ i k : Nat, v = .int .i64 i ∧ i ≤ n ∧ Hid ((l.take i).any (fun x => q.any fun y => hitR x y) = false) ∧ wr = w.drewN k) (fun v _ => n - (intOf v).toNat)
  case atStart => exact ⟨0, 0, rfl, by omega, by simp [Hid], rfl⟩
  case round =>
    obtain ⟨i, k, rfl, hi, HI, rfl⟩ := hrel
    by_cases hlt : i < n
    · obtain ⟨bA, oA, x1, x2, rfl, Hx, hx1, hx2⟩ := hA.atR (k := i) (by have := Hl.out; omega)
      have hdi : decide (i < n) = true := decide_eq_true hlt
      go_wp2_with fail
      go_loopw [6] (fun v wr => ∃ j k2 : Nat, v = .int .i64 j ∧ j ≤ m ∧ Hid ((q.take j).any (fun y => hitR (x1, x2) y) = false) ∧ wr = w.drewN k2) (fun v _ => m - (intOf v).toNat)
      case atStart => exact ⟨0, k, rfl, by omega, by simp [Hid], rfl⟩
      case round =>
        obtain ⟨j, k2, rfl, hj, HJ, rfl⟩ := hrel
        by_cases hltj : j < m
        · obtain ⟨bB, oB, y1, y2, rfl, Hy, hy1, hy2⟩ := hB.atR (k := j) (by have := Hq.out; omega)
          rcases (by omega : ¬ x1 ≤ y2 ∨ (x1 ≤ y2 ∧ ¬ y1 ≤ x2) ∨ (x1 ≤ y2 ∧ y1 ≤ x2)) with h1 | ⟨h1, h2⟩ | ⟨h1, h2⟩
          · have HJ' := Lib.hid (any_next HJ.out Hy.out (show hitR (x1, x2) (y1, y2) = false by simp [hitR, h1]))
            have hd1 : decide (x1 ≤ y2) = false := decide_eq_false h1
            go_wp2_with fail
            go_quiet (fail)
            go_wp2
            go_roundw
            case rel => exact ⟨j + 1, _, by go_num, by omega, HJ', by first | rfl | exact World.drewN_drewN _ _ _⟩
            case measure => simp [intOf]; omega
          · have HJ' := Lib.hid (any_next HJ.out Hy.out (show hitR (x1, x2) (y1, y2) = false by simp [hitR, h2]))
            have hd1 : decide (x1 ≤ y2) = true := decide_eq_true h1
            have hd2 : decide (y1 ≤ x2) = false := decide_eq_false h2
            go_wp2_with fail
            go_quiet (fail)
            go_wp2
            go_roundw
            case rel => exact ⟨j + 1, _, by go_num, by omega, HJ', by first | rfl | exact World.drewN_drewN _ _ _⟩
            case measure => simp [intOf]; omega
          · have HE : Hid (meetB l q = true) := Lib.hid (by rw [HMB.out]; exact any_hit Hx.out (any_hit Hy.out (show hitR (x1, x2) (y1, y2) = true by simp [hitR, h1, h2])))
            have hd1 : decide (x1 ≤ y2) = true := decide_eq_true h1
            have hd2 : decide (y1 ≤ x2) = true := decide_eq_true h2
            go_wp2_with fail
            go_quiet (fail)
            go_wp2
            go_ret
            exact ⟨by rw [HE.out]; rfl, _, by first | rfl | exact World.drewN_drewN _ _ _⟩
        · have HI' := Lib.hid (any_next HI.out Hx.out (any_all HJ.out (show ¬ j < q.length by have := Hq.out; omega)))
          go_wp2
          go_roundw
          case rel => exact ⟨i + 1, k2, by go_num, by omega, HI', rfl⟩
          case measure => simp [intOf]; omega
    · have HE : Hid (meetB l q = false) := Lib.hid (by rw [HMB.out]; exact any_all HI.out (show ¬ i < l.length by have := Hl.out; omega))
      go_wp2
      go_ret
      exact ⟨by rw [HE.out]; rfl, k, rfl⟩
end Go.Proofs.YtdnkignhenkamaaGreatDoor

/- -/
namespace Go.Proofs.YtdnkignhenkamaaGreatDoor
open Go.RowKit
structure ScM (w : World) (t : TypeId) (B base bt bi : Nat) (s : ByteArray) (q : Nat) (tl : List Value) (A1 : Option Addr) (n1 c1 : Nat) (A2 : Option Addr) (n2 c2 : Nat) (P : List Nat) (C : List Int) : Prop where
  blk : Blk w bt t (Value.slice A1 n1 c1 :: Value.slice A2 n2 c2 :: tl).toArray
  it : w.heap[bi]? = some (.stringIter s q)
  o1 : Own w base 3 1 A1 n1 c1 (P.map encN)
  o2 : Own w base 3 1 A2 n2 c2 (C.map encZ)
  ne : ∀ a b, A1 = some a → A2 = some b → a.block ≠ b.block
  lt : B ≤ bt ∧ bt < base ∧ B ≤ bi ∧ bi < base ∧ bt ≠ bi ∧ base ≤ w.heap.size
section
variable {w w' : World} {t : TypeId} {B base bt bi : Nat} {s : ByteArray} {q : Nat} {tl : List Value} {A1 : Option Addr} {n1 c1 : Nat} {A2 : Option Addr} {n2 c2 : Nat} {P : List Nat} {C : List Int}
theorem ScM.below (h : ScM w t B base bt bi s q tl A1 n1 c1 A2 n2 c2 P C) (hb : Below w.heap.size w w') : ScM w' t B base bt bi s q tl A1 n1 c1 A2 n2 c2 P C :=
  ⟨h.blk.below hb, (hb.block _ (Array.getElem?_eq_some_iff.1 h.it).1).trans h.it, h.o1.below hb, h.o2.below hb, h.ne, ⟨h.lt.1, h.lt.2.1, h.lt.2.2.1, h.lt.2.2.2.1, h.lt.2.2.2.2.1, Nat.le_trans h.lt.2.2.2.2.2 hb.size⟩⟩
theorem ScM.iterAt (h : ScM w t B base bt bi s q tl A1 n1 c1 A2 n2 c2 P C) (k : Nat) : ScM (w.iterAt bi s k) t B base bt bi s k tl A1 n1 c1 A2 n2 c2 P C := by
  have hl := h.lt
  have hsame : ∀ b, b ≠ bi → (w.iterAt bi s k).heap[b]? = w.heap[b]? := fun b hne => Lib.iterAt_other w bi b s k hne
  refine ⟨(hsame bt hl.2.2.2.2.1).trans h.blk, Lib.iterAt_heap w bi s q k h.it, h.o1.keep fun a ha => hsame _ ?_, h.o2.keep fun a ha => hsame _ ?_, h.ne, ?_⟩
  · have := (h.o1.lt a ha).1; omega
  · have := (h.o2.lt a ha).1; omega
  · rw [Lib.iterAt_size]; exact hl
end
end Go.Proofs.YtdnkignhenkamaaGreatDoor

/- -/
namespace Go.Proofs.YtdnkignhenkamaaGreatDoor
open Go.RowKit
end Go.Proofs.YtdnkignhenkamaaGreatDoor

/- -/
namespace Go.Proofs.YtdnkignhenkamaaGreatDoor
open Go.RowKit
def lBl (c : Int) : Bool := c == 4 || c == 1 || c == 2 || c == 3 || c == 5
def trR (g : Int → Nat) (l : List (Nat × Nat × Nat)) : Nat := (((l.reverse.dropWhile fun x => lBl (g (x.1 : Int))).head?).map (·.2.2)).getD 0
def trailP (g : Int → Nat) (s : ByteArray) : Nat := trR g (runesP s)
theorem trR_snoc (g : Int → Nat) (l : List (Nat × Nat × Nat)) (x : Nat × Nat × Nat) : trR g (l ++ [x]) = if lBl (g (x.1 : Int)) then trR g l else x.2.2 := by
  unfold trR
  rw [List.reverse_append, List.reverse_singleton, List.singleton_append, List.dropWhile_cons]
  split <;> rfl
theorem takeWhile_snoc {l : List (Nat × Nat × Nat)} {x : Nat × Nat × Nat} (h : (l ++ [x]).Pairwise fun a b => a.2.1 < b.2.1) : (l ++ [x]).takeWhile (fun y => decide (y.2.1 < x.2.1)) = l := by
  rw [List.pairwise_append] at h
  rw [List.takeWhile_append_of_pos fun a ha => decide_eq_true (h.2.2 a ha x (by simp))]
  simp
theorem contig_last : ∀ {l : List (Nat × Nat × Nat)} {a z : Nat} {x : Nat × Nat × Nat}, Contig a (l ++ [x]) z → x.2.2 = z
  | [], _, _, _, h => h.2.2
  | _ :: l, _, _, _, h => contig_last (l := l) h.2.2
theorem trail_step (g : Int → Nat) (t : ByteArray) (h : 0 < t.size) : ∃ r w : Nat, Lib.decodeLastL t.data.toList = (r, w) ∧ 1 ≤ w ∧ w ≤ t.size ∧ trailP g t = if lBl (g (r : Int)) then trailP g (t.extract 0 (t.size - w)) else t.size := by
  have hne : runesP t ≠ [] := fun e => by
    obtain ⟨k, hk, e2⟩ := runesGo_step (s := t) (f := t.size) (a := 0) h (by omega)
    unfold runesP at e
    rw [e] at e2
    cases e2
  rcases List.eq_nil_or_concat (runesP t) with e | ⟨l, x, e⟩
  · exact absurd e hne
  · rw [List.concat_eq_append] at e
    have hx : x ∈ runesP t := by rw [e]; simp
    have hend : x.2.2 = t.size := by
      have hc := runesP_contig t
      rw [e] at hc
      exact contig_last hc
    have hb := runesP_bd x hx
    have hr := runes_rise' t
    have hp := runesP_prefix t (z := x.2.1) (by omega) (.inr (.inr ⟨x, hx, rfl⟩))
    rw [e] at hr hp
    rw [takeWhile_snoc hr] at hp
    refine ⟨x.1, x.2.2 - x.2.1, last_rune t hx hend, by omega, by omega, ?_⟩
    rw [show t.size - (x.2.2 - x.2.1) = x.2.1 by omega]
    unfold trailP
    rw [hp, e, trR_snoc, hend]
set_option maxHeartbeats 1000000 in
theorem eLast_any (s : ByteArray) (w : World) (hT : Tabs w) (h0 : 0 < s.size) (hs : s.size ≤ 1000000) :
    Calls Tryz.prog 46 #[.string s] w fun e w' => e = .returned (.tuple #[.int .i32 (Lib.decodeLastL s.data.toList).1, .int .i64 (Lib.decodeLastL s.data.toList).2]) ∧ Below w.heap.size w w' := by
  have HC := Lib.hid (Tryz.utf8_DecodeLastRuneInString s w (by omega) hT)
  have hem : s.toList.isEmpty = false := by
    rw [ByteArray.toList_eq]
    cases hq : s.data.toList with
    | nil => rw [← size_data, hq] at h0; simp at h0
    | cons a b => rfl
  obtain ⟨r, hr⟩ : ∃ r, Lib.decodeLastL s.data.toList = r := ⟨_, rfl⟩
  rw [hr] at HC ⊢
  clear hr
  go_enter Tryz.func46, Tryz.ntmps46
  go_wp2_with fail
  refine HC.out.mono ?_
  rintro e w1 ⟨rfl, hb⟩
  go_wp2
  go_ret2
  exact ⟨rfl, hb⟩
end Go.Proofs.YtdnkignhenkamaaGreatDoor

/- -/
namespace Go.Proofs.YtdnkignhenkamaaGreatDoor
open Go.RowKit
end Go.Proofs.YtdnkignhenkamaaGreatDoor

