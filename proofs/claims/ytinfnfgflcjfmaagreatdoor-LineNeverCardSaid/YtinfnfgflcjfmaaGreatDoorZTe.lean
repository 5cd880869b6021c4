/-
  line.Chances, walked.
-/
import Derived.Test.YtinfnfgflcjfmaaGreatDoorZTc
import Derived.Test.YtinfnfgflcjfmaaGreatDoorZTd
namespace Go.Proofs.YtinfnfgflcjfmaaGreatDoor
open Go.RowKit

def encC (x : Nat × Bool) : List Value := [.int .i64 (x.1 : Nat), .bool x.2]
theorem encC_ok (l : List (Nat × Bool)) : ∀ y ∈ l.map encC, y.length = 2 ∧ ∀ u ∈ y, u.oneCell' = true := by
  intro y hy; obtain ⟨r, _, rfl⟩ := List.mem_map.1 hy
  exact ⟨rfl, by simp [encC, Value.oneCell']⟩
theorem infoC : (Tryz.prog.info? 38).map (fun i => (i.zero, i.size, i.bytes)) = some (some (.agg #[.int .i64 0, .bool false]), 2, 16) := by kernel_rfl
theorem lpick_next {c : List Int} {P : List Nat} {i a : Nat} (h : P[i]? = some a) : lPick c 0 (P.take (i + 1)) = lPick c 0 (P.take i) ++ (if i ≠ 0 ∧ lCut c i = true then [(a, lMust (c.getD (i - 1) 0))] else []) := by
  obtain ⟨h1, h2⟩ := List.getElem?_eq_some_iff.1 h
  rw [List.take_add_one, h, Option.toList_some, lPick_append, Nat.zero_add, List.length_take, Nat.min_eq_left (by omega), lPick, lPick, List.append_nil]
theorem lpick_one (c : List Int) (P : List Nat) : lPick c 0 (P.take 1) = [] := by
  cases P with
  | nil => rfl
  | cons a r => simp [lPick]

set_option maxRecDepth 100000 in
set_option maxHeartbeats 8000000 in
theorem tChances_any (s : ByteArray) (w : World) (hE : Env w) (hs : s.size ≤ 1000000) :
    Calls Tryz.prog 23 #[.string s] w fun e w' => ∃ A n c, e = .returned (.slice A n c) ∧ Own w' w.heap.size 38 2 A n c ((lChances gL s).map encC) ∧ Below w.heap.size w w' := by
  obtain ⟨i0, hi0, hz0, hz1, hz2⟩ := info_parts infoC
  have HC := Lib.hid (tscan_any s w hE hs)
  obtain ⟨P, HP⟩ : ∃ P, Hid ((runesP s).map (·.2.1) = P) := ⟨_, Lib.hid rfl⟩
  obtain ⟨C, HCl⟩ : ∃ C, Hid (lCls gL s = C) := ⟨_, Lib.hid rfl⟩
  have HW : Hid (lChances gL s = lPick C 0 P ++ (if s.size = 0 then [] else [(s.size, true)])) := Lib.hid (by rw [← HP.out, ← HCl.out]; rfl)
  have hPl : P.length = C.length := by rw [← HP.out, ← HCl.out, List.length_map, lCls_len]
  have hPz : P.length ≤ s.size := by rw [← HP.out, List.length_map]; exact runesP_len s
  clear hE
  go_enter Tryz.func23, Tryz.ntmps23
  go_wp2_with fail
  refine HC.out.mono ?_
  rintro e w1 ⟨A1, n1, c1, A2, n2, c2, rfl, o1, o2, hb1⟩
  clear HC
  rw [HP.out] at o1
  rw [HCl.out] at o2
  have hn1 : P.length = n1 := by have := o1.len; simpa using this
  have hn2 : C.length = n2 := by have := o2.len; simpa using this
  obtain rfl : n2 = n1 := by omega
  have Hn2 := Lib.hid hn2
  have Hn1 := Lib.hid hn1
  have hnz : n2 ≤ s.size := by omega
  clear hn1 hn2 hPl hPz
  have hK := Blk.new w1 75 #[.slice A1 n2 c1, .slice A2 n2 c2]
  have hb2 : Below w1.heap.size w1 (w1.alloc (.cells #[.slice A1 n2 c1, .slice A2 n2 c2] 75)) := (Below.refl _ _).alloc (Nat.le_refl _) _
  have o1 := o1.below hb2
  have o2 := o2.below hb2
  have hb3 := below_step hb1 hb2 hb1.size
  have k0 := hK.cell 0
  have k1 := hK.cell 1
  simp only [List.getElem?_toArray, List.getElem?_cons_zero, List.getElem?_cons_succ] at k0 k1
  go_wp2_with fail
  generalize (w1.alloc (.cells #[.slice A1 n2 c1, .slice A2 n2 c2] 75)) = w3 at hK o1 o2 hb3 k0 k1 ⊢
  generalize w1.heap.size = bx at hK k0 k1 ⊢
  have rd1 := o1.rd (by decide)
  have rd2 := o2.rd (by decide)
  have hsz3 := hb3.size
  clear o1 o2 hb1 hb2
  go_loopw [4, 5] (fun v u wr => ∃ (i : Nat) (A : Option Addr) (n c : Nat) (O : List (Nat × Bool)), v = .slice A n c ∧ u = .int .i64 i ∧ 1 ≤ i ∧ i ≤ n2 + 1 ∧ Own wr w3.heap.size 38 2 A n c (O.map encC) ∧ n ≤ i ∧ Hid (O = lPick C 0 (P.take i)) ∧ Below w3.heap.size w3 wr) (fun _ u _ => n2 - (intOf u).toNat)
  case atStart => exact ⟨1, none, 0, 0, [], rfl, rfl, by omega, by omega, Own.nil_ _ _ _ _, by omega, Lib.hid (lpick_one C P).symm, Below.refl _ _⟩
  case round =>
    obtain ⟨i, A, n, c, O, rfl, rfl, h1i, hi, ho, hni, HO, hb⟩ := hrel
    have hszr := hb.size
    by_cases hlt : i < n2
    · obtain ⟨a, Ha⟩ : ∃ a, Hid (P[i]? = some a) := ⟨_, Lib.hid (List.getElem?_eq_getElem (by have := Hn1.out; omega))⟩
      obtain ⟨p, Hp⟩ : ∃ a, Hid (C[i - 1]? = some a) := ⟨_, Lib.hid (List.getElem?_eq_getElem (by have := Hn2.out; omega))⟩
      obtain ⟨b1, off1, rfl, hc1⟩ := rd1.atP Ha.out
      obtain ⟨b2, off2, rfl, hc2⟩ := rd2.atZ Hp.out
      have j0 := cell_keep k0 hb
      have j1 := cell_keep k1 hb
      have HN := Lib.hid (lpick_next (c := C) Ha.out)
      rw [← HO.out, getD_of Hp.out] at HN
      obtain ⟨j, hj⟩ : ∃ j, i - 1 = j := ⟨_, rfl⟩
      have e1 : (i : Int) - 1 = (j : Int) := by omega
      rw [hj] at hc2
      clear hj
      have HCu := Lib.hid (tcut_any (some ⟨b1, off1, none⟩) (some ⟨b2, off2, none⟩) n2 c1 n2 c2 C i wr (rd2.below hb) Hn2.out (by omega) (by omega) (by omega))
      cases hcu : lCut C i with
      | true =>
        have HN' : Hid (O ++ [(a, lMust p)] = lPick C 0 (P.take (i + 1))) := Lib.hid (by rw [HN.out, if_pos ⟨by omega, hcu⟩])
        obtain ⟨m, Hm⟩ : ∃ m, Hid (lMust p = m) := ⟨_, Lib.hid rfl⟩
        rw [Hm.out] at HN'
        rw [hcu] at HCu
        clear hcu HN
        go_upto_region 7 with (go_at_call 56; refine HCu.out.mono ?_; rintro e w5 ⟨rfl, hb5⟩; have hbb := below_step hb hb5 hb.size; have ho5 := ho.below hb5)
        have hs5 := hbb.size
        have q1 : IntKind.i64.wrap ((i : Int) - 1) = (i : Int) - 1 := IntWalk.i64_in _ (by omega)
        have q2 : IntKind.i64.wrap (j : Int) = (j : Int) := IntWalk.i64_in _ (by omega)
        have q3 : (j : Int) < (n2 : Int) := by omega
        have q4 : (i : Int) < (n2 : Int) := by omega
        have q5 : (0 : Int) ≤ (j : Int) := by omega
        have q6 : j < n2 := by omega
        have HST := Lib.hid (fun (V : World) (h : Below w3.heap.size w3 V) => And.intro (cell_keep k0 h) (And.intro (cell_keep k1 h) (And.intro (cell_keep hc1 h) (And.intro (cell_keep hc2 h) h))))
        clear HCu ho hb hszr j0 j1
        go_wp2_with fail
        go_region_held3 (fun V => V.cell? ⟨bx, 0, none⟩ = some (.slice (some ⟨b1, off1, none⟩) n2 c1) ∧ V.cell? ⟨bx, 1, none⟩ = some (.slice (some ⟨b2, off2, none⟩) n2 c2) ∧ V.cell? ⟨b1, off1 + i, none⟩ = some (.int .i64 (a : Nat)) ∧ V.cell? ⟨b2, off2 + j, none⟩ = some (.int .i64 p) ∧ Below w3.heap.size w3 V)
          (first | exact HST.out _ hb4 | exact HST.out _ (hbz.alloc hbz.size _) | exact HST.out _ hbz | exact HST.out _ hbb | exact HST.out _ (below_drewN hbb 1))
          (first
            | (go_at_call 57; go_split_ands; refine (tmust_any _ _).mono ?_; rw [Hm.out]; rintro e wz ⟨rfl, hz⟩; have hbz := below_step (below_drewN hbb 1) hz hbb.size; have ho6 := Own.below (w := w5.drew) ho5 hz; have hsz := hbz.size)
            | (refine step_app rfl (.tmp 18) (.tmp 32) _ rfl w3.heap.size 38 i0 _ 2 16 Tryz.underlying35 hi0 hz0 hz1 hz2 rfl (by omega) A n c (O.map encC) rfl (ho6.alloc _) _ 1 1 [encC (a, m)] rfl rfl (Rd.newAt (by simp) rfl) (encC_ok [(a, m)]) (by unfold maxLen; omega) (by omega) (by simp; omega) ?_; intro A3 c3 w4 ho4 hg4 hA4; have hb4 := below_app (hbz.alloc (by omega) _) hg4 (by simp; omega) (fun a ha => by have := (ho6.lt a ha).1; omega)))
        go_wp2
        go_roundw
        case rel => exact ⟨i + 1, A3, n + 1, c3, O ++ [(a, m)], rfl, by go_num, by omega, by omega, by rw [List.map_append]; exact ho4, by omega, HN', hb4⟩
        case measure => simp [intOf]; omega
      | false =>
        have HN' : Hid (O = lPick C 0 (P.take (i + 1))) := Lib.hid (by rw [HN.out, if_neg (by rw [hcu]; simp), List.append_nil])
        rw [hcu] at HCu
        clear hcu HN
        go_wp2_with (go_at_call 56; refine HCu.out.mono ?_; rintro e w5 ⟨rfl, hb5⟩; have hbb := below_step hb hb5 hb.size; have ho5 := ho.below hb5)
        go_roundw
        case rel => exact ⟨i + 1, A, n, c, O, rfl, by go_num, by omega, by omega, ho5, by omega, HN', hbb⟩
        case measure => simp [intOf]; omega
    · have hO : Hid (O = lPick C 0 P) := Lib.hid (by rw [HO.out, List.take_of_length_le (by have := Hn1.out; omega)])
      have j0 := cell_keep k0 hb
      by_cases hz : 0 < s.size
      · have HV : Hid (O ++ [(s.size, true)] = lChances gL s) := Lib.hid (by rw [HW.out, hO.out, if_neg (by omega)])
        go_wp2_with (at_builtin; go_must (refine wpList_app rfl (.tmp 37) (.tmp 41) _ rfl w3.heap.size 38 i0 _ 2 16 Tryz.underlying35 hi0 hz0 hz1 hz2 rfl (by omega) A n c (O.map encC) rfl (ho.alloc _) _ 1 1 [encC (s.size, true)] rfl rfl (Rd.newAt (by simp) rfl) (encC_ok [(s.size, true)]) (by unfold maxLen; omega) (by omega) (by simp; omega) ?_); intro A3 c3 w4 ho4 hg4 hA4; have hb4 := below_app (hb.alloc (by omega) _) hg4 (by simp; omega) (fun a ha => by have := (ho.lt a ha).1; omega); clear hg4 hA4)
        go_ret
        exact ⟨A3, n + 1, c3, rfl, by rw [← HV.out, List.map_append]; exact ho4.more hsz3, below_step hb3 hb4 hsz3⟩
      · have HV : Hid (O = lChances gL s) := Lib.hid (by rw [HW.out, hO.out, if_pos (by omega), List.append_nil])
        go_wp2
        go_ret
        exact ⟨A, n, c, rfl, by rw [← HV.out]; exact ho.more hsz3, below_step hb3 hb hsz3⟩
end Go.Proofs.YtinfnfgflcjfmaaGreatDoor

