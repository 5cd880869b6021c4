/-
  kerfref02.Print: the spelling of a set.
-/
import Derived.Test.YteelepiaegpkhaaGreatDoorHexR
import Derived.Test.YteelepiaegpkhaaGreatDoorRefB
import Derived.Lib.AppendStr
import Derived.Lib.BufferRead
namespace Go.Proofs.YteelepiaegpkhaaGreatDoor
open Go.RowKit

theorem infoU8' : (Tryz.prog.info? 5).map (fun i => (i.zero, i.size, i.bytes)) = some (some (.int .u8 0), 1, 1) := by kernel_rfl
/-- Bytes that are the call's own. -/
def OwnB (w : World) (B : Nat) (v : Value) (l : List UInt8) : Prop := w.ownsRow B 5 1 v l.length (Lib.byteCells l)
theorem OwnB.below {w w' : World} {B : Nat} {v : Value} {l : List UInt8} (h : OwnB w B v l) (hb : Below w.heap.size w w') : OwnB w' B v l := by
  unfold OwnB at h ⊢
  refine ⟨h.1, ?_⟩
  rcases h.2 with h0 | ⟨g, cap, cur, hv, hg, hh, r⟩
  · exact .inl h0
  · exact .inr ⟨g, cap, cur, hv, hg, (hb.block g (Array.getElem?_eq_some_iff.1 hh).1).trans hh, r⟩
theorem OwnB.convert {w : World} {B : Nat} {v : Value} {l : List UInt8} (h : OwnB w B v l) : (convert 47 9 v).run Tryz.prog w = .ok (.string ⟨l.toArray⟩) w := by
  unfold OwnB at h
  rcases h.2 with ⟨rfl, h0⟩ | ⟨g, cap, cur, rfl, _, hg, _, _, _, ht⟩
  · have : l = [] := List.length_eq_zero_iff.1 h0
    subst this
    exact Lib.run_convert_nil_bytes w 47 9 5 0 Tryz.underlying47 Tryz.underlying5 Tryz.underlying9
  · exact run_convert_bytes_back w 47 9 5 ⟨g, 0, none⟩ cap l Tryz.underlying47 Tryz.underlying5 Tryz.underlying9 (Lib.bytes_of_row hg (by simpa using ht))
theorem OwnB.lt {w : World} {B : Nat} {v : Value} {l : List UInt8} (h : OwnB w B v l) : ∀ k, v.ownBlock = some k → B ≤ k := fun k hk => (World.ownsRow.lt h k hk).1
theorem OwnB.str {w : World} {B : Nat} {v : Value} {l : List UInt8} {s : ByteArray} {n : Nat} (h : w.ownsRow B 5 1 v (n + s.size) (Lib.byteCells l ++ Lib.strCells s)) (hn : n = l.length) : OwnB w B v (l ++ s.data.toList) := by
  unfold OwnB
  subst hn
  have e1 : Lib.byteCells (l ++ s.data.toList) = Lib.byteCells l ++ Lib.strCells s := by simp [Lib.byteCells, Lib.strCells]
  rw [e1, List.length_append, Array.length_toList]
  exact h
theorem OwnB.byte {w : World} {B : Nat} {v : Value} {l : List UInt8} {c : UInt8} {n : Nat} (h : w.ownsRow B 5 1 v (n + 1) (Lib.byteCells l ++ [.int .u8 c.toNat])) (hn : n = l.length) : OwnB w B v (l ++ [c]) := by
  unfold OwnB
  subst hn
  have e1 : Lib.byteCells (l ++ [c]) = Lib.byteCells l ++ [.int .u8 c.toNat] := by simp [Lib.byteCells]
  rw [e1, List.length_append]
  exact h
theorem OwnB.form {w : World} {B : Nat} {v : Value} {l : List UInt8} (h : OwnB w B v l) : ∃ A n c, v = .slice A n c := by
  unfold OwnB at h
  rcases h.2 with ⟨rfl, _⟩ | ⟨g, cap, cur, rfl, _⟩
  · exact ⟨_, _, _, rfl⟩
  · exact ⟨_, _, _, rfl⟩
theorem cell_grown {w w' : World} {o : Obj} {B b i : Nat} {v u : Value} {l : List UInt8} (hu : w.cell? ⟨b, i, none⟩ = some u) (ho : OwnB (w.alloc o) B v l) (hg : (w.alloc o).grownBy w' v.ownBlock) (hb : b < B) : w'.cell? ⟨b, i, none⟩ = some u := by
  have h1 : (w.alloc o).cell? ⟨b, i, none⟩ = some u := cell_keep hu ((Below.refl _ _).alloc (Nat.le_refl _) o)
  exact (World.cell?_of_block (hg.block b (cell_lt h1) (fun e => by have := ho.lt b e.symm; omega))).trans h1
theorem cell_grownS {w w' : World} {B b i : Nat} {v u : Value} {l : List UInt8} (hu : w.cell? ⟨b, i, none⟩ = some u) (ho : OwnB w B v l) (hg : w.grownBy w' v.ownBlock) (hb : b < B) : w'.cell? ⟨b, i, none⟩ = some u :=
  (World.cell?_of_block (hg.block b (cell_lt hu) (fun e => by have := ho.lt b e.symm; omega))).trans hu
theorem below_ownB {B : Nat} {a w w' : World} {v : Value} {l : List UInt8} (h : Below B a w) (ho : OwnB w B v l) (hg : w.grownBy w' v.ownBlock) (hB : B ≤ w.heap.size) : Below B a w' := h.grown hg hB fun k hk => ho.lt k hk
theorem cell_newB (w : World) {t : TypeId} (x : Value) : ∀ j u, [x][j]? = some u → (w.alloc (.cells #[x] t)).cell? ((⟨w.heap.size, 0, none⟩ : Addr).add j) = some u := fun j u h => by
  match j, h with
  | 0, h =>
    obtain rfl : x = u := by simpa using h
    exact (Blk.new w t #[x]).cell 0

set_option maxRecDepth 100000 in
set_option maxHeartbeats 2000000 in
theorem sPrint_any (A : Option Addr) (n c : Nat) (l : List (Int × Int)) (w : World) (hA : Rd w 2 A (l.map encR)) (hl : l.length = n) (hn : n ≤ 4000000) :
    Calls Tryz.prog 8 #[.slice A n c] w fun e w' => e = .returned (.string ⟨(printP l).toArray⟩) ∧ Below w.heap.size w w' := by
  obtain ⟨i0, hi0, hz0, hz1, hz2⟩ := info_parts infoU8'
  have Hl := Lib.hid hl
  have HNF := Lib.hid (normR_NF l)
  clear hl
  go_enter Tryz.func8, Tryz.ntmps8
  go_wp2_with fail
  refine (sNorm_any A n c l _ hA Hl.out hn).mono ?_
  rintro e w1 ⟨A1, n1, c1, rfl, ho1, hb1⟩
  have Hl1 := Lib.hid (show (normR l).length = n1 by simpa using ho1.len)
  have hn1 : n1 ≤ 557056 := by have := HNF.out.len; have := Hl1.out; omega
  have hA1 := ho1.rd (by decide)
  clear ho1
  go_wp2_with fail
  go_loopw [4, 5] (fun v4 v5 wr => ∃ (k : Nat) (A2 : Option Addr) (n2 c2 : Nat), v4 = .slice A2 n2 c2 ∧ v5 = .int .i64 k ∧ k ≤ n1 ∧ OwnB wr w1.heap.size (.slice A2 n2 c2) (printL ((normR l).take k)) ∧ Below w1.heap.size w1 wr) (fun _ v5 _ => n1 - (intOf v5).toNat)
  case atStart => exact ⟨0, none, 0, 0, rfl, rfl, by omega, ⟨rfl, .inl ⟨rfl, rfl⟩⟩, Below.refl _ _⟩
  case round =>
    obtain ⟨k, A2, n2, c2, rfl, rfl, hk, ho, hb⟩ := hrel
    have hplen := printL_len ((normR l).take k)
    have hl2 : (printL ((normR l).take k)).length ≤ 20000000 := by rw [List.length_take] at hplen; have := Hl1.out; omega
    have hsz := hb.size
    clear hplen
    by_cases hlt : k < n1
    · obtain ⟨bb, off, lo, hi, rfl, Hx, d0, d1⟩ := hA1.atR (k := k) (by have := Hl1.out; omega)
      have hbb : bb < w1.heap.size := cell_lt d0
      replace d0 := cell_keep d0 hb
      replace d1 := cell_keep d1 hb
      have hxb := HNF.out.2 _ (List.mem_of_getElem? Hx.out)
      have hxl := Nf_le HNF.out.1 _ (List.mem_of_getElem? Hx.out)
      simp only at hxb hxl
      obtain ⟨a, rfl⟩ : ∃ a : Nat, lo = (a : Int) := ⟨lo.toNat, by omega⟩
      obtain ⟨b, rfl⟩ : ∃ b : Nat, hi = (b : Int) := ⟨hi.toNat, by omega⟩
      have ha : a ≤ 1114111 := by omega
      have hb9 : b ≤ 1114111 := by omega
      obtain ⟨Xa, hXa⟩ : ∃ X : ByteArray, (⟨(hexS a).toArray⟩ : ByteArray) = X := ⟨_, rfl⟩
      obtain ⟨Xb, hXb⟩ : ∃ X : ByteArray, (⟨(hexS b).toArray⟩ : ByteArray) = X := ⟨_, rfl⟩
      have hza : Xa.size ≤ 6 := by rw [← hXa, ← size_data]; simp [hexS_len]; exact (hexK_bd a).2
      have hzb : Xb.size ≤ 6 := by rw [← hXb, ← size_data]; simp [hexS_len]; exact (hexK_bd b).2
      have Ha1 := Lib.hid (show ((⟨#[85, 43]⟩ : ByteArray) ++ Xa).data.toList = spellP (a : Int) by rw [← hXa]; simp [spellP])
      have Hb1 := Lib.hid (show ((⟨#[45, 85, 43]⟩ : ByteArray) ++ Xb).data.toList = 45 :: spellP (b : Int) by rw [← hXb]; simp [spellP])
      have hsa : ((⟨#[85, 43]⟩ : ByteArray) ++ Xa).size ≤ 8 := by rw [ByteArray.size_append]; show 2 + _ ≤ _; omega
      have hsb : ((⟨#[45, 85, 43]⟩ : ByteArray) ++ Xb).size ≤ 9 := by rw [ByteArray.size_append]; show 3 + _ ≤ _; omega
      have HXa := Lib.hid hXa
      have HXb := Lib.hid hXb
      have HT := Lib.hid (show printL ((normR l).take (k + 1)) = printL ((normR l).take k) ++ (if (normR l).take k = [] then [] else [32]) ++ itemT ((a : Int), (b : Int)) by
        rw [List.take_add_one, Hx.out, Option.toList_some, printL_snoc])
      clear hXa hXb
      by_cases he : b = a
      · subst he
        have Hit := Lib.hid (show itemT ((b : Int), (b : Int)) = spellP (b : Int) by unfold itemT; rw [if_pos rfl, List.append_nil])
        by_cases hk0 : k = 0
        · skip
          obtain rfl : k = 0 := hk0
          have HT2 : Hid (printL ((normR l).take (0 + 1)) = printL ((normR l).take 0) ++ [] ++ itemT ((b : Int), (b : Int))) := Lib.hid (by have h := HT.out; rw [if_pos List.take_zero] at h; exact h)
          simp only [Nat.zero_mul, Nat.add_zero] at d0 d1
          clear HT
          go_wp2_with fail
          have ho' : OwnB wr w1.heap.size (.slice A2 n2 c2) (printL ((normR l).take 0) ++ []) := by rw [List.append_nil]; exact ho
          clear ho
          have hl3 : (printL ((normR l).take 0) ++ []).length ≤ 20000001 := by rw [List.append_nil]; omega
          refine (sHex_any b wr (by omega)).mono ?_
          rintro e w9 ⟨rfl, rfl⟩
          rw [HXa.out]
          go_wp2_with (at_builtin; go_must (refine Lib.wpList_append_own_string _ rfl (.tmp 19) (.tmp 26) 47 9 rfl w1.heap.size 5 i0 Tryz.underlying47 Tryz.underlying9 hi0 hz0 hz1 hz2 _ _ _ rfl ho' (⟨#[85, 43]⟩ ++ Xa) rfl (by unfold maxLen; omega) (by omega) (by omega) ?_); intro v3 w3 ho3 hg3 _; have ho4 := OwnB.str ho3 rfl; have hb4 := below_ownB hb ho' hg3 (by omega); have f0 := cell_grownS d0 ho' hg3 hbb; have f1 := cell_grownS d1 ho' hg3 hbb; obtain ⟨A5, n5, c5, rfl⟩ := ho4.form; clear ho3 hg3)
          rw [Ha1.out] at ho4
          clear d0 d1 ho' hb
          go_quiet (fail)
          go_wp2
          have ho6 : OwnB _ w1.heap.size (.slice A5 n5 c5) (printL ((normR l).take (0 + 1))) := cast (by rw [HT2.out, Hit.out]) ho4
          go_roundw
          case rel => exact ⟨0 + 1, A5, n5, c5, rfl, by go_num, by omega, ho6, below_drewN hb4 _⟩
          case measure => simp [intOf]; omega
        · skip
          have htk : ¬ (normR l).take k = [] := by
            intro e
            have h9 : ((normR l).take k).length = 0 := by rw [e]; rfl
            rw [List.length_take] at h9; have := Hl1.out; omega
          have HT2 := Lib.hid HT.out
          rw [if_neg htk] at HT2
          have hk0' : 0 < k := by omega
          clear HT htk
          have hoA : OwnB (wr.alloc (.cells #[.int .u8 32] 5)) w1.heap.size (.slice A2 n2 c2) (printL ((normR l).take k)) := ho.below ((Below.refl _ _).alloc (Nat.le_refl _) _)
          go_wp2_with (at_builtin; go_must (refine wpList_append_own _ rfl (.tmp 16) (.tmp 17) 47 rfl w1.heap.size 5 i0 _ 1 1 Tryz.underlying47 hi0 hz0 hz1 hz2 rfl (by decide) _ _ _ rfl hoA ⟨wr.heap.size, 0, none⟩ 1 1 [.int .u8 (32 : UInt8).toNat] rfl rfl (cell_newB wr _) (by simp [Value.oneCell']) (by unfold maxLen; omega) (by omega) (by simp; omega) ?_); intro v2 w2 ho2 hg2 _; have ho' := OwnB.byte ho2 rfl; have hb' := below_ownB (hb.alloc (by omega) _) hoA hg2 (by simp; omega); have e0 := cell_grown d0 hoA hg2 hbb; have e1 := cell_grown d1 hoA hg2 hbb; obtain ⟨A4, n4, c4, rfl⟩ := ho'.form; clear ho2 hg2)
          have hl3 : (printL ((normR l).take k) ++ [32]).length ≤ 20000001 := by rw [List.length_append]; simp; omega
          have hs2 := hb'.size
          clear d0 d1 hoA ho hb
          refine (sHex_any b w2 (by omega)).mono ?_
          rintro e w9 ⟨rfl, rfl⟩
          rw [HXa.out]
          go_wp2_with (at_builtin; go_must (refine Lib.wpList_append_own_string _ rfl (.tmp 19) (.tmp 26) 47 9 rfl w1.heap.size 5 i0 Tryz.underlying47 Tryz.underlying9 hi0 hz0 hz1 hz2 _ _ _ rfl ho' (⟨#[85, 43]⟩ ++ Xa) rfl (by unfold maxLen; omega) (by omega) (by omega) ?_); intro v3 w3 ho3 hg3 _; have ho4 := OwnB.str ho3 rfl; have hb4 := below_ownB hb' ho' hg3 (by omega); have f0 := cell_grownS e0 ho' hg3 hbb; have f1 := cell_grownS e1 ho' hg3 hbb; obtain ⟨A5, n5, c5, rfl⟩ := ho4.form; clear ho3 hg3)
          rw [Ha1.out] at ho4
          clear e0 e1 ho' hb'
          go_quiet (fail)
          go_wp2
          have ho6 : OwnB _ w1.heap.size (.slice A5 n5 c5) (printL ((normR l).take (k + 1))) := cast (by rw [HT2.out, Hit.out]) ho4
          go_roundw
          case rel => exact ⟨k + 1, A5, n5, c5, rfl, by go_num, by omega, ho6, below_drewN hb4 _⟩
          case measure => simp [intOf]; omega
      · have Hit := Lib.hid (show itemT ((a : Int), (b : Int)) = spellP (a : Int) ++ 45 :: spellP (b : Int) by unfold itemT; rw [if_neg (fun e => he (by simp only at e; omega))])
        have hab : ((b : Int) != (a : Int)) = true := by rw [bne_iff_ne]; omega
        clear he
        by_cases hk0 : k = 0
        · skip
          obtain rfl : k = 0 := hk0
          have HT2 : Hid (printL ((normR l).take (0 + 1)) = printL ((normR l).take 0) ++ [] ++ itemT ((a : Int), (b : Int))) := Lib.hid (by have h := HT.out; rw [if_pos List.take_zero] at h; exact h)
          simp only [Nat.zero_mul, Nat.add_zero] at d0 d1
          clear HT
          go_wp2_with fail
          have ho' : OwnB wr w1.heap.size (.slice A2 n2 c2) (printL ((normR l).take 0) ++ []) := by rw [List.append_nil]; exact ho
          clear ho
          have hl3 : (printL ((normR l).take 0) ++ []).length ≤ 20000001 := by rw [List.append_nil]; omega
          refine (sHex_any a wr (by omega)).mono ?_
          rintro e w9 ⟨rfl, rfl⟩
          rw [HXa.out]
          go_wp2_with (at_builtin; go_must (refine Lib.wpList_append_own_string _ rfl (.tmp 19) (.tmp 26) 47 9 rfl w1.heap.size 5 i0 Tryz.underlying47 Tryz.underlying9 hi0 hz0 hz1 hz2 _ _ _ rfl ho' (⟨#[85, 43]⟩ ++ Xa) rfl (by unfold maxLen; omega) (by omega) (by omega) ?_); intro v3 w3 ho3 hg3 _; have ho4 := OwnB.str ho3 rfl; have hb4 := below_ownB hb ho' hg3 (by omega); have f0 := cell_grownS d0 ho' hg3 hbb; have f1 := cell_grownS d1 ho' hg3 hbb; obtain ⟨A5, n5, c5, rfl⟩ := ho4.form; clear ho3 hg3)
          rw [Ha1.out] at ho4
          clear d0 d1 ho' hb
          go_quiet (fail)
          have hl5 : (printL ((normR l).take 0) ++ [] ++ spellP (a : Int)).length ≤ 20000010 := by have := spellP_len (a : Int); rw [List.length_append]; omega
          have hs5 := hb4.size
          go_wp2_with fail
          refine (sHex_any b _ hb9).mono ?_
          rintro e w9 ⟨rfl, rfl⟩
          rw [HXb.out]
          go_wp2_with (at_builtin; go_must (refine Lib.wpList_append_own_string _ rfl (.tmp 39) (.tmp 46) 47 9 rfl w1.heap.size 5 i0 Tryz.underlying47 Tryz.underlying9 hi0 hz0 hz1 hz2 _ _ _ rfl ho4 (⟨#[45, 85, 43]⟩ ++ Xb) rfl (by unfold maxLen; omega) (by omega) hs5 ?_); intro v6 w6 ho6 hg6 _; have ho7 := OwnB.str ho6 rfl; have hb7 := below_ownB (below_drewN hb4 _) ho4 hg6 hs5; obtain ⟨A7, n7, c7, rfl⟩ := ho7.form; clear ho6 hg6)
          rw [Hb1.out] at ho7
          have ho8 : OwnB w6 w1.heap.size (.slice A7 n7 c7) (printL ((normR l).take (0 + 1))) := cast (by simp only [HT2.out, Hit.out, List.append_assoc]) ho7
          go_roundw
          case rel => exact ⟨0 + 1, A7, n7, c7, rfl, by go_num, by omega, ho8, hb7⟩
          case measure => simp [intOf]; omega
        · skip
          have htk : ¬ (normR l).take k = [] := by
            intro e
            have h9 : ((normR l).take k).length = 0 := by rw [e]; rfl
            rw [List.length_take] at h9; have := Hl1.out; omega
          have HT2 := Lib.hid HT.out
          rw [if_neg htk] at HT2
          have hk0' : 0 < k := by omega
          clear HT htk
          have hoA : OwnB (wr.alloc (.cells #[.int .u8 32] 5)) w1.heap.size (.slice A2 n2 c2) (printL ((normR l).take k)) := ho.below ((Below.refl _ _).alloc (Nat.le_refl _) _)
          go_wp2_with (at_builtin; go_must (refine wpList_append_own _ rfl (.tmp 16) (.tmp 17) 47 rfl w1.heap.size 5 i0 _ 1 1 Tryz.underlying47 hi0 hz0 hz1 hz2 rfl (by decide) _ _ _ rfl hoA ⟨wr.heap.size, 0, none⟩ 1 1 [.int .u8 (32 : UInt8).toNat] rfl rfl (cell_newB wr _) (by simp [Value.oneCell']) (by unfold maxLen; omega) (by omega) (by simp; omega) ?_); intro v2 w2 ho2 hg2 _; have ho' := OwnB.byte ho2 rfl; have hb' := below_ownB (hb.alloc (by omega) _) hoA hg2 (by simp; omega); have e0 := cell_grown d0 hoA hg2 hbb; have e1 := cell_grown d1 hoA hg2 hbb; obtain ⟨A4, n4, c4, rfl⟩ := ho'.form; clear ho2 hg2)
          have hl3 : (printL ((normR l).take k) ++ [32]).length ≤ 20000001 := by rw [List.length_append]; simp; omega
          have hs2 := hb'.size
          clear d0 d1 hoA ho hb
          refine (sHex_any a w2 (by omega)).mono ?_
          rintro e w9 ⟨rfl, rfl⟩
          rw [HXa.out]
          go_wp2_with (at_builtin; go_must (refine Lib.wpList_append_own_string _ rfl (.tmp 19) (.tmp 26) 47 9 rfl w1.heap.size 5 i0 Tryz.underlying47 Tryz.underlying9 hi0 hz0 hz1 hz2 _ _ _ rfl ho' (⟨#[85, 43]⟩ ++ Xa) rfl (by unfold maxLen; omega) (by omega) (by omega) ?_); intro v3 w3 ho3 hg3 _; have ho4 := OwnB.str ho3 rfl; have hb4 := below_ownB hb' ho' hg3 (by omega); have f0 := cell_grownS e0 ho' hg3 hbb; have f1 := cell_grownS e1 ho' hg3 hbb; obtain ⟨A5, n5, c5, rfl⟩ := ho4.form; clear ho3 hg3)
          rw [Ha1.out] at ho4
          clear e0 e1 ho' hb'
          go_quiet (fail)
          have hl5 : (printL ((normR l).take k) ++ [32] ++ spellP (a : Int)).length ≤ 20000010 := by have := spellP_len (a : Int); rw [List.length_append]; omega
          have hs5 := hb4.size
          go_wp2_with fail
          refine (sHex_any b _ hb9).mono ?_
          rintro e w9 ⟨rfl, rfl⟩
          rw [HXb.out]
          go_wp2_with (at_builtin; go_must (refine Lib.wpList_append_own_string _ rfl (.tmp 39) (.tmp 46) 47 9 rfl w1.heap.size 5 i0 Tryz.underlying47 Tryz.underlying9 hi0 hz0 hz1 hz2 _ _ _ rfl ho4 (⟨#[45, 85, 43]⟩ ++ Xb) rfl (by unfold maxLen; omega) (by omega) hs5 ?_); intro v6 w6 ho6 hg6 _; have ho7 := OwnB.str ho6 rfl; have hb7 := below_ownB (below_drewN hb4 _) ho4 hg6 hs5; obtain ⟨A7, n7, c7, rfl⟩ := ho7.form; clear ho6 hg6)
          rw [Hb1.out] at ho7
          have ho8 : OwnB w6 w1.heap.size (.slice A7 n7 c7) (printL ((normR l).take (k + 1))) := cast (by simp only [HT2.out, Hit.out, List.append_assoc]) ho7
          go_roundw
          case rel => exact ⟨k + 1, A7, n7, c7, rfl, by go_num, by omega, ho8, hb7⟩
          case measure => simp [intOf]; omega
    · obtain rfl : n1 = k := by omega
      have HE := Lib.hid (show (normR l).take n1 = normR l from List.take_of_length_le (by have := Hl1.out; omega))
      rw [HE.out] at ho
      have hcv := ho.convert
      go_wp2
      go_ret
      exact ⟨rfl, below_two hb1 hb⟩
end Go.Proofs.YteelepiaegpkhaaGreatDoor
