/-
  kerflaw14.LineParts, walked.
-/
import Derived.Test.YtinfnfgflcjfmaaGreatDoorZ9a
import Derived.Test.YtinfnfgflcjfmaaGreatDoorZ1c
namespace Go.Proofs.YtinfnfgflcjfmaaGreatDoor
open Go.RowKit

theorem parts_nl {s t u v : ByteArray} (hu : u.data.toList = s.data.toList ++ [10]) (hv : v.data.toList = s.data.toList ++ [10] ++ t.data.toList) : lChances gL v = lChances gL u ++ (lChances gL t).map (shC u.size) :=
  lChances_parts (m := [10]) (R := 10) ⟨by decide, by decide, by decide⟩ (by decide) (by decide) (.inr (by kernel_rfl)) hu hv
theorem parts_bk {s t u v : ByteArray} (hu : u.data.toList = s.data.toList ++ [226, 128, 168]) (hv : v.data.toList = s.data.toList ++ [226, 128, 168] ++ t.data.toList) : lChances gL v = lChances gL u ++ (lChances gL t).map (shC u.size) :=
  lChances_parts (m := [226, 128, 168]) (R := 8232) ⟨by decide, by decide, by decide⟩ (by decide) (by decide) (.inl (by kernel_rfl)) hu hv
theorem lPick_len (c : List Int) : ∀ (P : List Nat) (i : Nat), (lPick c i P).length ≤ P.length
  | [], _ => Nat.le_refl _
  | a :: P, i => by
    have := lPick_len c P (i + 1)
    rw [lPick, List.length_append, List.length_cons]
    split <;> simp <;> omega
theorem chances_len (s : ByteArray) : (lChances gL s).length ≤ s.size + 1 := by
  unfold lChances
  have h1 := lPick_len (lCls gL s) ((runesP s).map (·.2.1)) 0
  have h2 := runesP_len s
  rw [List.length_map] at h1
  rw [List.length_append]
  split <;> simp <;> omega

theorem lPick_sub (c : List Int) : ∀ (P : List Nat) (i : Nat), ∀ x ∈ lPick c i P, x.1 ∈ P
  | [], _, x, h => by cases h
  | a :: P, i, x, h => by
    rw [lPick, List.mem_append] at h
    rcases h with h | h
    · split at h
      · simp at h; rw [h]; simp
      · cases h
    · exact List.mem_cons_of_mem _ (lPick_sub c P (i + 1) x h)
theorem chances_le {s : ByteArray} {x : Nat × Bool} (h : x ∈ lChances gL s) : x.1 ≤ s.size := by
  unfold lChances at h
  rw [List.mem_append] at h
  rcases h with h | h
  · have := lPick_sub _ _ _ x h
    obtain ⟨y, hy, e⟩ := List.mem_map.1 this
    have := runesP_bd y hy
    omega
  · split at h
    · cases h
    · simp at h; rw [h]; exact Nat.le_refl _
set_option maxRecDepth 100000 in
set_option maxHeartbeats 8000000 in
theorem yLineParts_any (s t : ByteArray) (bk : Bool) (w : World) (hE : Env w) (hs : s.size ≤ 140737488355328) (ht : t.size ≤ 140737488355328) :
    Calls Tryz.prog 5 #[.string s, .string t, .bool bk] w fun e w' => e = .returned (.bool true) ∧ Below w.heap.size w w' := by
  by_cases h1 : 60 < s.size + t.size
  · have HL := Lib.hid (ylive_any w hE)
    have g1 : (60 : Int) < (s.size : Int) + (t.size : Int) := by omega
    clear h1
    go_enter Tryz.func5, Tryz.ntmps5
    go_wp2_with fail
    refine HL.out.mono ?_
    rintro e w1 ⟨rfl, hb⟩
    go_wp2
    go_ret
    exact ⟨rfl, hb⟩
  have g1 : ¬ (60 : Int) < (s.size : Int) + (t.size : Int) := by omega
  obtain ⟨i0, hi0, hz0, hz1, hz2⟩ := info_parts infoC
  have hq1 : ¬ 9223372036854775807 < s.size + 1 := by omega
  have hq3 : ¬ 9223372036854775807 < s.size + 3 := by omega
  have HU : Hid (∃ U, (if bk then s ++ ⟨#[226, 128, 168]⟩ else s ++ ⟨#[10]⟩ : ByteArray) = U ∧ U.size ≤ s.size + 3 ∧ ∀ V : ByteArray, V.data.toList = U.data.toList ++ t.data.toList → lChances gL V = lChances gL U ++ (lChances gL t).map (shC U.size)) := Lib.hid (by
    cases bk with
    | true =>
      refine ⟨_, rfl, by rw [if_pos rfl, ByteArray.size_append]; exact Nat.le_refl _, fun V hV => ?_⟩
      rw [if_pos rfl] at hV ⊢
      exact parts_bk (s := s) (by rw [ByteArray.data_append, Array.toList_append]) (by rw [hV, ByteArray.data_append, Array.toList_append])
    | false =>
      refine ⟨_, rfl, by rw [if_neg (by simp), ByteArray.size_append]; show s.size + 1 ≤ s.size + 3; omega, fun V hV => ?_⟩
      rw [if_neg (by simp)] at hV ⊢
      exact parts_nl (s := s) (by rw [ByteArray.data_append, Array.toList_append]) (by rw [hV, ByteArray.data_append, Array.toList_append]))
  obtain ⟨U, hUe, hUz, hUp⟩ := HU.out
  have HUp := Lib.hid hUp
  have HUe := Lib.hid hUe
  have hUz2 : U.size + t.size ≤ 63 := by omega
  have hzt : t.size ≤ 60 := by omega
  clear HU hUe hUp h1
  have HC1 := Lib.hid (fun W (h : Env W) => tChances_any U W h (by omega))
  have HC2 := Lib.hid (fun W (h : Env W) => tChances_any t W h (by omega))
  have HC3 := Lib.hid (fun (V : ByteArray) W (h : Env W) (hz : V.size ≤ 100) => tChances_any V W h (by omega))
  have HLv := Lib.hid (fun W (h : Env W) => ylive_any W h)
  have hl1 := chances_len U
  have hl2 := chances_len t
  obtain ⟨L1, HL1⟩ : ∃ L, Hid (lChances gL U = L) := ⟨_, Lib.hid rfl⟩
  obtain ⟨M, HM⟩ : ∃ L, Hid (lChances gL t = L) := ⟨_, Lib.hid rfl⟩
  rw [HL1.out] at HC1 hl1 HUp
  rw [HM.out] at HC2 hl2 HUp
  have HMb := Lib.hid (fun (i : Nat) (x : Nat × Bool) (hx : M[i]? = some x) => chances_le (s := t) (x := x) (by rw [HM.out]; exact List.mem_of_getElem? hx))
  have ho0 := Own.lit w w.heap.size 38 2 (Nat.le_refl _)
  have hb0 : Below w.heap.size w (w.alloc (.cells #[] 38)) := (Below.refl _ _).alloc (Nat.le_refl _) _
  have hE0 := hE.below hb0
  have hz0' : (w.alloc (.cells #[] 38)).heap.size = w.heap.size + 1 := by simp
  have hU7 : (if bk then s ++ ⟨#[226, 128, 168]⟩ else s ++ ⟨#[10]⟩ : ByteArray) = U := HUe.out
  cases bk with
  | true =>
    replace hU7 : s ++ ⟨#[226, 128, 168]⟩ = U := hU7
    go_enter Tryz.func5, Tryz.ntmps5
    go_wp2_with fail
    refine (HC1.out _ hE0).mono ?_
    rintro e w1 ⟨A1, n1, c1, rfl, o1, hb1⟩
    have ho1 := ho0.below hb1
    have hb01 := hb0.trans (hb1.mono hb0.size)
    have hn1 : L1.length = n1 := by have := o1.len; simpa using this
    have rd1 := o1.rd (by decide)
    have hm1 : (L1.map encC).length = n1 := by simpa using hn1
    have hs1 := hb01.size
    clear HC1 ho0 hb1
    go_wp2_with (at_builtin; go_must (refine wpList_app rfl (.tmp 23) (.tmp 25) _ rfl w.heap.size 38 i0 _ 2 16 Tryz.underlying35 hi0 hz0 hz1 hz2 rfl (by omega) (some ⟨w.heap.size, 0, none⟩) 0 0 [] rfl ho1 A1 n1 c1 (L1.map encC) rfl hm1 rd1 (encC_ok L1) (by unfold maxLen; omega) (by omega) hs1 ?_); intro A2 c2 w2 ho2 hg2 hA2)
    have hb2 := below_app hb01 hg2 hs1 (fun a ha => by injection ha with ha; subst ha; exact Nat.le_refl _)
    rw [List.nil_append, Nat.zero_add] at ho2
    have hs2 := hb2.size
    refine (HC2.out w2 (hE.below hb2)).mono ?_
    rintro e w3 ⟨B, n3, c3, rfl, o3, hb3⟩
    have hn3 : M.length = n3 := by have := o3.len; simpa using this
    have Hn3 := Lib.hid hn3
    have ho3 := ho2.below hb3
    have hb4 := below_step hb2 hb3 hs2
    have hap : ∀ a b, A2 = some a → B = some b → a.block ≠ b.block := fun a b ha hb => by
      have h5 := (ho2.lt a ha).2
      have h6 := (o3.lt b hb).1
      omega
    have hO0 : Hid (L1 = L1 ++ (M.take 0).map (shC U.size)) := Lib.hid (by simp)
    have hn1b : n1 ≤ 64 := by omega
    have hn3b : n3 ≤ 61 := by omega
    clear HC2 ho1 ho2 hg2 hA2 hb01 hm1 rd1 o1 hl1 hl2 hn1 hn3 hb3
    go_wp2_with fail
    go_loopw [8, 10] (fun v u wr => ∃ (i : Nat) (A : Option Addr) (n c : Nat) (O : List (Nat × Bool)), v = .slice A n c ∧ u = .int .i64 i ∧ i ≤ n3 ∧ Own wr w.heap.size 38 2 A n c (O.map encC) ∧ n ≤ 64 + i ∧ Hid (O = L1 ++ (M.take i).map (shC U.size)) ∧ Own wr w2.heap.size 38 2 B n3 c3 (M.map encC) ∧ (∀ a b, A = some a → B = some b → a.block ≠ b.block) ∧ Below w.heap.size w wr) (fun _ u _ => n3 - (intOf u).toNat)
    case atStart => exact ⟨0, A2, n1, c2, L1, rfl, rfl, by omega, ho3, by omega, hO0, o3, hap, hb4⟩
    case round =>
      clear ho3 o3 hap hb4 hO0 hs2 hb2
      obtain ⟨i, A, n, c, O, rfl, rfl, hi, ho, hni, HO, hoM, hap, hb⟩ := hrel
      have hszr := hb.size
      by_cases hlt : i < n3
      · obtain ⟨⟨a, m⟩, Hx⟩ : ∃ x, Hid (M[i]? = some x) := ⟨_, Lib.hid (List.getElem?_eq_getElem (by have := Hn3.out; omega))⟩
        have hab := HMb.out i _ Hx.out
        simp only at hab
        obtain ⟨bb, off, rfl, c0, c1⟩ := (hoM.rd (by decide)).atC Hx.out
        simp only at c0 c1
        have hblk := (hoM.lt _ rfl).2
        simp only at hblk
        obtain ⟨z, hzz⟩ : ∃ z : Nat, z = a + U.size := ⟨_, rfl⟩
        have e6 : (a : Int) + (U.size : Int) = (z : Int) := by omega
        have e7 : IntKind.i64.wrap (z : Int) = (z : Int) := IntWalk.i64_in _ (by omega)
        have q1 : (i : Int) < (n3 : Int) := by omega
        have q2 : (0 : Int) ≤ (i : Int) := by omega
        have HN : Hid (O ++ [(z, m)] = L1 ++ (M.take (i + 1)).map (shC U.size)) := Lib.hid (by
          rw [HO.out, List.take_add_one, Hx.out, Option.toList_some, List.map_append, List.append_assoc, hzz]; rfl)
        have HKp : Hid (∀ (o : Obj) (W : World), (wr.drew.alloc o).grownBy W (A.map (·.block)) → W.cell? ⟨bb, off + i * 2, none⟩ = some (.int .i64 (a : Nat)) ∧ W.cell? ⟨bb, off + i * 2 + 1, none⟩ = some (.bool m) ∧ W.heap[bb]? = wr.heap[bb]?) := Lib.hid (fun o W hg => by
          have hk : W.heap[bb]? = wr.heap[bb]? := (hg.block bb (by simp; omega) (fun e => by cases A with | none => cases e | some ad => simp at e; exact hap ad _ rfl rfl e.symm)).trans (Below.heap_alloc wr.drew o bb hblk)
          exact ⟨(World.cell?_of_block hk).trans c0, (World.cell?_of_block hk).trans c1, hk⟩)
        clear hzz hab
        go_wp2_with fail
        go_region_held3 (fun V => V.cell? ⟨bb, off + i * 2, none⟩ = some (.int .i64 (a : Nat)) ∧ V.cell? ⟨bb, off + i * 2 + 1, none⟩ = some (.bool m))
          (first | exact ⟨(HKp.out _ _ hg4).1, (HKp.out _ _ hg4).2.1⟩ | exact ⟨c0, c1⟩ | exact ⟨cell_keep (w := wr.drew) c0 ((Below.refl _ _).alloc (Nat.le_refl _) _), cell_keep (w := wr.drew) c1 ((Below.refl _ _).alloc (Nat.le_refl _) _)⟩)
          ((refine step_app rfl (.tmp 35) (.tmp 50) _ rfl w.heap.size 38 i0 _ 2 16 Tryz.underlying35 hi0 hz0 hz1 hz2 rfl (by omega) A n c (O.map encC) rfl (Own.alloc (w := wr.drew) ho _) _ 1 1 [encC (z, m)] rfl rfl (Rd.newAt (by simp) rfl) (encC_ok [(z, m)]) (by unfold maxLen; omega) (by omega) (by simp; omega) ?_; intro A4 c4 w4 ho4 hg4 hA4))
        have hb5 := below_app (A := A) ((below_drewN hb 1).alloc (by show w.heap.size ≤ wr.heap.size; omega) _) hg4 (by show w.heap.size ≤ (wr.drew.alloc _).heap.size; simp; omega) (fun ad had => by have := (ho.lt ad had).1; omega)
        have hoM4 : Own w4 w2.heap.size 38 2 (some ⟨bb, off, none⟩) n3 c3 (M.map encC) := hoM.keep fun ad had => by injection had with had; subst had; exact (HKp.out _ _ hg4).2.2
        have hap4 : ∀ ad b, A4 = some ad → some (⟨bb, off, none⟩ : Addr) = some b → ad.block ≠ b.block := fun ad b had hb6 => by
          rcases hA4 with e | e
          · exact hap ad b (by rw [← e]; exact had) hb6
          · rw [e] at had; injection had with had; subst had; injection hb6 with hb6; subst hb6; simp; omega
        go_wp2
        go_roundw
        case rel => exact ⟨i + 1, A4, n + 1, c4, O ++ [(z, m)], rfl, by go_num, by omega, by rw [List.map_append]; exact ho4, by omega, HN, hoM4, hap4, hb5⟩
        case measure => simp [intOf]; omega
      · obtain rfl : i = n3 := by omega
        obtain ⟨V, hV⟩ : ∃ V, U ++ t = V := ⟨_, rfl⟩
        have hVz : V.size = U.size + t.size := by rw [← hV, ByteArray.size_append]
        have HV : Hid (lChances gL V = O) := Lib.hid (by
          rw [HUp.out V (by rw [← hV, ByteArray.data_append, Array.toList_append]), HO.out, List.take_of_length_le (by have := Hn3.out; omega)])
        have hq9 : ¬ 9223372036854775807 < U.size + t.size := by omega
        have HC := Lib.hid (HC3.out V wr (hE.below hb) (by omega))
        rw [HV.out] at HC
        clear hVz HC3 hU7
        go_wp2_with fail
        refine HC.out.mono ?_
        rintro e w5 ⟨A5, n5, c5, rfl, o5, hb5⟩
        have hon : O.length = n := by have := ho.len; simpa using this
        have hn5 : n = n5 := by have := o5.len; rw [List.length_map] at this; omega
        subst hn5
        have HY := Lib.hid (ychances_any A5 A n c5 c O w5 (o5.rd (by decide)) ((ho.below hb5).rd (by decide)) hon (by omega))
        have hb6 := below_step hb hb5 hszr
        clear HC o5
        go_wp2_with fail
        refine HY.out.mono ?_
        rintro e w6 ⟨rfl, hb7⟩
        have hb8 := below_step hb6 hb7 hb6.size
        go_wp2_with fail
        refine (HLv.out w6 (hE.below hb8)).mono ?_
        rintro e w7 ⟨rfl, hb9⟩
        go_wp2
        go_ret
        exact ⟨rfl, below_step hb8 hb9 hb8.size⟩
  | false =>
    replace hU7 : s ++ ⟨#[10]⟩ = U := hU7
    go_enter Tryz.func5, Tryz.ntmps5
    go_wp2_with fail
    refine (HC1.out _ hE0).mono ?_
    rintro e w1 ⟨A1, n1, c1, rfl, o1, hb1⟩
    have ho1 := ho0.below hb1
    have hb01 := hb0.trans (hb1.mono hb0.size)
    have hn1 : L1.length = n1 := by have := o1.len; simpa using this
    have rd1 := o1.rd (by decide)
    have hm1 : (L1.map encC).length = n1 := by simpa using hn1
    have hs1 := hb01.size
    clear HC1 ho0 hb1
    go_wp2_with (at_builtin; go_must (refine wpList_app rfl (.tmp 23) (.tmp 25) _ rfl w.heap.size 38 i0 _ 2 16 Tryz.underlying35 hi0 hz0 hz1 hz2 rfl (by omega) (some ⟨w.heap.size, 0, none⟩) 0 0 [] rfl ho1 A1 n1 c1 (L1.map encC) rfl hm1 rd1 (encC_ok L1) (by unfold maxLen; omega) (by omega) hs1 ?_); intro A2 c2 w2 ho2 hg2 hA2)
    have hb2 := below_app hb01 hg2 hs1 (fun a ha => by injection ha with ha; subst ha; exact Nat.le_refl _)
    rw [List.nil_append, Nat.zero_add] at ho2
    have hs2 := hb2.size
    refine (HC2.out w2 (hE.below hb2)).mono ?_
    rintro e w3 ⟨B, n3, c3, rfl, o3, hb3⟩
    have hn3 : M.length = n3 := by have := o3.len; simpa using this
    have Hn3 := Lib.hid hn3
    have ho3 := ho2.below hb3
    have hb4 := below_step hb2 hb3 hs2
    have hap : ∀ a b, A2 = some a → B = some b → a.block ≠ b.block := fun a b ha hb => by
      have h5 := (ho2.lt a ha).2
      have h6 := (o3.lt b hb).1
      omega
    have hO0 : Hid (L1 = L1 ++ (M.take 0).map (shC U.size)) := Lib.hid (by simp)
    have hn1b : n1 ≤ 64 := by omega
    have hn3b : n3 ≤ 61 := by omega
    clear HC2 ho1 ho2 hg2 hA2 hb01 hm1 rd1 o1 hl1 hl2 hn1 hn3 hb3
    go_wp2_with fail
    go_loopw [8, 10] (fun v u wr => ∃ (i : Nat) (A : Option Addr) (n c : Nat) (O : List (Nat × Bool)), v = .slice A n c ∧ u = .int .i64 i ∧ i ≤ n3 ∧ Own wr w.heap.size 38 2 A n c (O.map encC) ∧ n ≤ 64 + i ∧ Hid (O = L1 ++ (M.take i).map (shC U.size)) ∧ Own wr w2.heap.size 38 2 B n3 c3 (M.map encC) ∧ (∀ a b, A = some a → B = some b → a.block ≠ b.block) ∧ Below w.heap.size w wr) (fun _ u _ => n3 - (intOf u).toNat)
    case atStart => exact ⟨0, A2, n1, c2, L1, rfl, rfl, by omega, ho3, by omega, hO0, o3, hap, hb4⟩
    case round =>
      clear ho3 o3 hap hb4 hO0 hs2 hb2
      obtain ⟨i, A, n, c, O, rfl, rfl, hi, ho, hni, HO, hoM, hap, hb⟩ := hrel
      have hszr := hb.size
      by_cases hlt : i < n3
      · obtain ⟨⟨a, m⟩, Hx⟩ : ∃ x, Hid (M[i]? = some x) := ⟨_, Lib.hid (List.getElem?_eq_getElem (by have := Hn3.out; omega))⟩
        have hab := HMb.out i _ Hx.out
        simp only at hab
        obtain ⟨bb, off, rfl, c0, c1⟩ := (hoM.rd (by decide)).atC Hx.out
        simp only at c0 c1
        have hblk := (hoM.lt _ rfl).2
        simp only at hblk
        obtain ⟨z, hzz⟩ : ∃ z : Nat, z = a + U.size := ⟨_, rfl⟩
        have e6 : (a : Int) + (U.size : Int) = (z : Int) := by omega
        have e7 : IntKind.i64.wrap (z : Int) = (z : Int) := IntWalk.i64_in _ (by omega)
        have q1 : (i : Int) < (n3 : Int) := by omega
        have q2 : (0 : Int) ≤ (i : Int) := by omega
        have HN : Hid (O ++ [(z, m)] = L1 ++ (M.take (i + 1)).map (shC U.size)) := Lib.hid (by
          rw [HO.out, List.take_add_one, Hx.out, Option.toList_some, List.map_append, List.append_assoc, hzz]; rfl)
        have HKp : Hid (∀ (o : Obj) (W : World), (wr.drew.alloc o).grownBy W (A.map (·.block)) → W.cell? ⟨bb, off + i * 2, none⟩ = some (.int .i64 (a : Nat)) ∧ W.cell? ⟨bb, off + i * 2 + 1, none⟩ = some (.bool m) ∧ W.heap[bb]? = wr.heap[bb]?) := Lib.hid (fun o W hg => by
          have hk : W.heap[bb]? = wr.heap[bb]? := (hg.block bb (by simp; omega) (fun e => by cases A with | none => cases e | some ad => simp at e; exact hap ad _ rfl rfl e.symm)).trans (Below.heap_alloc wr.drew o bb hblk)
          exact ⟨(World.cell?_of_block hk).trans c0, (World.cell?_of_block hk).trans c1, hk⟩)
        clear hzz hab
        go_wp2_with fail
        go_region_held3 (fun V => V.cell? ⟨bb, off + i * 2, none⟩ = some (.int .i64 (a : Nat)) ∧ V.cell? ⟨bb, off + i * 2 + 1, none⟩ = some (.bool m))
          (first | exact ⟨(HKp.out _ _ hg4).1, (HKp.out _ _ hg4).2.1⟩ | exact ⟨c0, c1⟩ | exact ⟨cell_keep (w := wr.drew) c0 ((Below.refl _ _).alloc (Nat.le_refl _) _), cell_keep (w := wr.drew) c1 ((Below.refl _ _).alloc (Nat.le_refl _) _)⟩)
          ((refine step_app rfl (.tmp 35) (.tmp 50) _ rfl w.heap.size 38 i0 _ 2 16 Tryz.underlying35 hi0 hz0 hz1 hz2 rfl (by omega) A n c (O.map encC) rfl (Own.alloc (w := wr.drew) ho _) _ 1 1 [encC (z, m)] rfl rfl (Rd.newAt (by simp) rfl) (encC_ok [(z, m)]) (by unfold maxLen; omega) (by omega) (by simp; omega) ?_; intro A4 c4 w4 ho4 hg4 hA4))
        have hb5 := below_app (A := A) ((below_drewN hb 1).alloc (by show w.heap.size ≤ wr.heap.size; omega) _) hg4 (by show w.heap.size ≤ (wr.drew.alloc _).heap.size; simp; omega) (fun ad had => by have := (ho.lt ad had).1; omega)
        have hoM4 : Own w4 w2.heap.size 38 2 (some ⟨bb, off, none⟩) n3 c3 (M.map encC) := hoM.keep fun ad had => by injection had with had; subst had; exact (HKp.out _ _ hg4).2.2
        have hap4 : ∀ ad b, A4 = some ad → some (⟨bb, off, none⟩ : Addr) = some b → ad.block ≠ b.block := fun ad b had hb6 => by
          rcases hA4 with e | e
          · exact hap ad b (by rw [← e]; exact had) hb6
          · rw [e] at had; injection had with had; subst had; injection hb6 with hb6; subst hb6; simp; omega
        go_wp2
        go_roundw
        case rel => exact ⟨i + 1, A4, n + 1, c4, O ++ [(z, m)], rfl, by go_num, by omega, by rw [List.map_append]; exact ho4, by omega, HN, hoM4, hap4, hb5⟩
        case measure => simp [intOf]; omega
      · obtain rfl : i = n3 := by omega
        obtain ⟨V, hV⟩ : ∃ V, U ++ t = V := ⟨_, rfl⟩
        have hVz : V.size = U.size + t.size := by rw [← hV, ByteArray.size_append]
        have HV : Hid (lChances gL V = O) := Lib.hid (by
          rw [HUp.out V (by rw [← hV, ByteArray.data_append, Array.toList_append]), HO.out, List.take_of_length_le (by have := Hn3.out; omega)])
        have hq9 : ¬ 9223372036854775807 < U.size + t.size := by omega
        have HC := Lib.hid (HC3.out V wr (hE.below hb) (by omega))
        rw [HV.out] at HC
        clear hVz HC3 hU7
        go_wp2_with fail
        refine HC.out.mono ?_
        rintro e w5 ⟨A5, n5, c5, rfl, o5, hb5⟩
        have hon : O.length = n := by have := ho.len; simpa using this
        have hn5 : n = n5 := by have := o5.len; rw [List.length_map] at this; omega
        subst hn5
        have HY := Lib.hid (ychances_any A5 A n c5 c O w5 (o5.rd (by decide)) ((ho.below hb5).rd (by decide)) hon (by omega))
        have hb6 := below_step hb hb5 hszr
        clear HC o5
        go_wp2_with fail
        refine HY.out.mono ?_
        rintro e w6 ⟨rfl, hb7⟩
        have hb8 := below_step hb6 hb7 hb6.size
        go_wp2_with fail
        refine (HLv.out w6 (hE.below hb8)).mono ?_
        rintro e w7 ⟨rfl, hb9⟩
        go_wp2
        go_ret
        exact ⟨rfl, below_step hb8 hb9 hb8.size⟩
end Go.Proofs.YtinfnfgflcjfmaaGreatDoor

