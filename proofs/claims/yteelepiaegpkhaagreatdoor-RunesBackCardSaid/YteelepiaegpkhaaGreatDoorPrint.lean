/-
  runes.Print: the spelling of a set.
-/
import Derived.Test.YteelepiaegpkhaaGreatDoorSpell
import Derived.Test.YteelepiaegpkhaaGreatDoorJoin
import Derived.Test.YteelepiaegpkhaaGreatDoorRunB
namespace Go.Proofs.YteelepiaegpkhaaGreatDoor
open Go.RowKit

theorem TabB.below {w w' : World} (h : TabB w) (hb : Below w.heap.size w w') : TabB w' := by unfold TabB at h ⊢; exact cell_keep h hb
theorem infoStr : (Tryz.prog.info? 9).map (fun i => (i.zero, i.size, i.bytes)) = some (some (.string ByteArray.empty), 1, 16) := by kernel_rfl
/-- A text's one cell. -/
def encStr (s : ByteArray) : List Value := [.string s]
theorem encStr_ok (l : List ByteArray) : ∀ y ∈ l.map encStr, y.length = 1 ∧ ∀ u ∈ y, u.oneCell' = true := by
  intro y hy; obtain ⟨s, _, rfl⟩ := List.mem_map.1 hy
  exact ⟨rfl, by simp [encStr, Value.oneCell']⟩
def itemS (x : Int × Int) : ByteArray := ⟨(itemT x).toArray⟩
theorem joinL_print : ∀ (l : List (Int × Int)), joinL (l.map itemS) = printL l
  | [] => rfl
  | [x] => by simp [joinL, printL, itemS]
  | x :: y :: r => by
    have ih := joinL_print (y :: r)
    simp only [List.map_cons, joinL, printL] at ih ⊢
    rw [ih]; simp [itemS]
theorem itemS_size (x : Int × Int) : (itemS x).size ≤ 17 := by
  rw [← size_data]; simpa [itemS] using itemT_len x
theorem itemT_one {x : Int × Int} (h : x.2 = x.1) : itemT x = spellP x.1 := by unfold itemT; rw [if_pos h, List.append_nil]
theorem itemT_two {x : Int × Int} (h : ¬ x.2 = x.1) : itemT x = spellP x.1 ++ 45 :: spellP x.2 := by unfold itemT; rw [if_neg h]

set_option maxRecDepth 100000 in
set_option maxHeartbeats 2000000 in
theorem rPrint_any (A : Option Addr) (n c : Nat) (l : List (Int × Int)) (w : World) (hT : TabB w) (hA : Rd w 2 A (l.map encR)) (hl : l.length = n) (hn : n ≤ 4000000) :
    Calls Tryz.prog 6 #[.slice A n c] w fun e w' => e = .returned (.string ⟨(printP l).toArray⟩) ∧ Below w.heap.size w w' := by
  obtain ⟨i0, hi0, hz0, hz1, hz2⟩ := info_parts infoStr
  have Hl := Lib.hid hl
  have HNF := Lib.hid (normR_NF l)
  clear hl
  go_enter Tryz.func6, Tryz.ntmps6
  go_wp2_with fail
  refine (rNorm_any A n c l _ hA Hl.out hn).mono ?_
  rintro e w1 ⟨A1, n1, c1, rfl, ho1, hb1⟩
  have Hl1 := Lib.hid (show (normR l).length = n1 by simpa using ho1.len)
  have hn1 : n1 ≤ 557056 := by have := HNF.out.len; have := Hl1.out; omega
  have hA1 := ho1.rd (by decide)
  have hT1 := hT.below hb1
  have hc1 := ho1.cap
  clear ho1
  go_wp2_with fail
  go_loopw [3, 10] (fun v3 v10 wr => ∃ (k : Nat) (A2 : Option Addr) (n2 c2 : Nat), v3 = .slice A2 n2 c2 ∧ v10 = .int .i64 k ∧ k ≤ n1 ∧ Own wr w1.heap.size 9 1 A2 n2 c2 ((((normR l).take k).map itemS).map encStr) ∧ Below w1.heap.size w1 wr) (fun _ v10 _ => n1 - (intOf v10).toNat)
  case atStart => exact ⟨0, none, 0, 0, rfl, rfl, by omega, Own.nil_ _ _ _ _, Below.refl _ _⟩
  case round =>
    obtain ⟨k, A2, n2, c2, rfl, rfl, hk, ho, hb⟩ := hrel
    have hl2 : n2 ≤ k := by have h1 := ho.len; rw [List.length_map, List.length_map, List.length_take] at h1; omega
    by_cases hlt : k < n1
    · obtain ⟨bb, off, lo, hi, rfl, Hx, d0, d1⟩ := (hA1.below hb).atR (k := k) (by have := Hl1.out; omega)
      have hxb := HNF.out.2 _ (List.mem_of_getElem? Hx.out)
      have hxl := Nf_le HNF.out.1 _ (List.mem_of_getElem? Hx.out)
      simp only at hxb hxl
      obtain ⟨a, rfl⟩ : ∃ a : Nat, lo = (a : Int) := ⟨lo.toNat, by omega⟩
      obtain ⟨b, rfl⟩ : ∃ b : Nat, hi = (b : Int) := ⟨hi.toNat, by omega⟩
      have ha : a ≤ 1114111 := by omega
      have hb9 : b ≤ 1114111 := by omega
      have HT := Lib.hid (show (normR l).take (k + 1) = (normR l).take k ++ [((a : Int), (b : Int))] by rw [List.take_add_one, Hx.out]; rfl)
      have hb0 : Below wr.heap.size wr (wr.alloc (.cells #[.int .i32 a, .int .i32 b] 33)) := (Below.refl _ _).alloc (Nat.le_refl _) _
      have BX : Blk (wr.alloc (.cells #[.int .i32 a, .int .i32 b] 33)) wr.heap.size 33 #[.int .i32 a, .int .i32 b] := Blk.new _ _ _
      have hT2 := (hT1.below hb).below hb0
      go_wp2_with fail
      refine (rspell_any a _ ha hT2).mono ?_
      rintro e w2 ⟨rfl, hb2⟩
      replace BX := BX.below hb2
      replace hT2 := hT2.below hb2
      have hb3 := below_two hb0 hb2
      have ho3 := ho.below hb3
      have e0 := BX.cell 0
      have e1 := BX.cell 1
      simp only [List.getElem?_toArray, List.getElem?_cons_zero, List.getElem?_cons_succ] at e0 e1
      obtain ⟨S1, hS1⟩ : ∃ S : ByteArray, (⟨(spellP (a : Int)).toArray⟩ : ByteArray) = S := ⟨_, rfl⟩
      rw [hS1]
      have hq1 : S1.size ≤ 8 := by rw [← hS1, ← size_data]; simpa using spellP_len (a : Int)
      have HS1 := Lib.hid hS1
      clear hS1 hb0 hb2 d0 d1 ho
      have hb4 : Below w1.heap.size w1 w2 := below_step hb hb3 hb.size
      clear hb hb3
      by_cases he : b = a
      · subst he
        have Hs := Lib.hid (show itemS ((b : Int), (b : Int)) = S1 by unfold itemS; rw [itemT_one rfl, HS1.out])
        go_wp2_with (at_builtin; go_must (refine wpList_app rfl (.tmp 28) (.tmp 30) _ rfl w1.heap.size 9 i0 _ 1 16 Tryz.underlying37 hi0 hz0 hz1 hz2 rfl (by omega) A2 n2 c2 _ rfl (ho3.alloc _) _ 1 1 [encStr S1] rfl rfl (Rd.newAt (by simp) rfl) (encStr_ok [S1]) (by unfold maxLen; omega) (by omega) (by have := hb4.size; simp; omega) ?_); intro A3 c3 w3 ho4 hg4 hA4)
        have ho5 : Own w3 w1.heap.size 9 1 A3 (n2 + 1) c3 ((((normR l).take (k + 1)).map itemS).map encStr) := by
          rw [HT.out, List.map_append, List.map_append, List.map_singleton, List.map_singleton, Hs.out]; exact ho4
        have hb5 := below_app (hb4.alloc hb4.size _) hg4 (by have := hb4.size; simp; omega) (fun a ha => (ho3.lt a ha).1)
        clear ho4 hg4 ho3
        go_roundw
        case rel => exact ⟨k + 1, A3, n2 + 1, c3, rfl, by go_num, by omega, ho5, hb5⟩
        case measure => simp [intOf]; omega
      · have hne : ((b : Int) != (a : Int)) = true := by rw [bne_iff_ne]; omega
        go_wp2_with fail
        refine (rspell_any b _ hb9 hT2).mono ?_
        rintro e w2b ⟨rfl, hb6⟩
        have ho3b := ho3.below hb6
        have hb7 : Below w1.heap.size w1 w2b := below_step hb4 hb6 hb4.size
        obtain ⟨S2, hS2⟩ : ∃ S : ByteArray, (⟨(spellP (b : Int)).toArray⟩ : ByteArray) = S := ⟨_, rfl⟩
        rw [hS2]
        have Hs := Lib.hid (show itemS ((a : Int), (b : Int)) = S1 ++ ((⟨#[45]⟩ : ByteArray) ++ S2) by
          unfold itemS
          rw [itemT_two (fun e => he (by simp only at e; omega)), ← HS1.out, ← hS2]
          apply ByteArray.ext; rw [← Array.toList_inj]; simp)
        have hq2 : S2.size ≤ 8 := by rw [← hS2, ← size_data]; simpa using spellP_len (b : Int)
        have HS2 := Lib.hid hS2
        clear hS2 hb6 hb4 ho3 he hne e0 e1
        have hb4 := hb7
        have ho3 := ho3b
        clear ho3b hb7
        go_wp2_with (at_builtin; go_must (refine wpList_app rfl (.tmp 28) (.tmp 30) _ rfl w1.heap.size 9 i0 _ 1 16 Tryz.underlying37 hi0 hz0 hz1 hz2 rfl (by omega) A2 n2 c2 _ rfl (ho3.alloc _) _ 1 1 [encStr (S1 ++ ((⟨#[45]⟩ : ByteArray) ++ S2))] rfl rfl (Rd.newAt (by simp) rfl) (encStr_ok [_]) (by unfold maxLen; omega) (by omega) (by have := hb4.size; simp; omega) ?_); intro A3 c3 w3 ho4 hg4 hA4)
        have ho5 : Own w3 w1.heap.size 9 1 A3 (n2 + 1) c3 ((((normR l).take (k + 1)).map itemS).map encStr) := by
          rw [HT.out, List.map_append, List.map_append, List.map_singleton, List.map_singleton, Hs.out]; exact ho4
        have hb5 := below_app (hb4.alloc hb4.size _) hg4 (by have := hb4.size; simp; omega) (fun a ha => (ho3.lt a ha).1)
        clear ho4 hg4 ho3
        go_roundw
        case rel => exact ⟨k + 1, A3, n2 + 1, c3, rfl, by go_num, by omega, ho5, hb5⟩
        case measure => simp [intOf]; omega
    · obtain rfl : n1 = k := by omega
      have HE := Lib.hid (show (normR l).take n1 = normR l from List.take_of_length_le (by have := Hl1.out; omega))
      rw [HE.out] at ho
      have hcap := ho.cap
      have hlen := ho.len
      rw [List.length_map, List.length_map, Hl1.out] at hlen
      have Hlen := Lib.hid hlen
      have hn2 : n2 ≤ 600000 := by omega
      have HP := Lib.hid (joinL_print (normR l))
      have hlm : ((normR l).map itemS).length = n2 := by rw [List.length_map, Hl1.out]; exact hlen
      have Hlm := Lib.hid hlm
      clear hlen hlm
      go_wp2_with fail
      refine (lJoin_any A2 n2 c2 ((normR l).map itemS) wr (ho.rd (by decide)) Hlm.out hcap.1 hn2 (fun s hs => by
        obtain ⟨x, _, rfl⟩ := List.mem_map.1 hs
        have := itemS_size x; omega)).mono ?_
      rintro e w2 ⟨rfl, hb2⟩
      rw [HP.out]
      go_wp2
      go_ret
      exact ⟨rfl, below_two (below_two hb1 hb) hb2⟩
end Go.Proofs.YteelepiaegpkhaaGreatDoor
