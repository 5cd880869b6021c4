/-
  Several texts in one, in their build order: Wa, Wb, Wd, DbX, Rdr2, RefB, RefC, Txt, RefD, RefT, PropsY, Fmt.
-/
import Derived.Deep.DeepMust
import Derived.Shelf.Strings.SlTrimAscii
import Derived.Lib.OthersKept
import Derived.Lib.Replace
import Derived.Lib.IndexBytes
import Derived.Deep.LoopGhost
import Derived.Lib.ConvBytes
import Derived.Laws.Bits64b
import Derived.Test.YthlnfefpdmecaaaGreatDoorZ1a
import Derived.Test.YthlnfefpdmecaaaGreatDoorZHex
import Derived.Test.YthlnfefpdmecaaaGreatDoorZRefA
import Derived.Test.YthlnfefpdmecaaaGreatDoorZ0a
/-
  props: Name, meet, number, Class, walked.
-/
namespace Go.Proofs.YthlnfefpdmecaaaGreatDoor
open Go.RowKit Go.Maps

theorem letB_t {c : UInt8} (h : (65 ≤ c.toNat ∧ c.toNat ≤ 90) ∨ (97 ≤ c.toNat ∧ c.toNat ≤ 122)) : letB c = true := by simpa [letB] using h
theorem letB_f {c : UInt8} (h : ¬ ((65 ≤ c.toNat ∧ c.toNat ≤ 90) ∨ (97 ≤ c.toNat ∧ c.toNat ≤ 122))) : letB c = false := by
  cases hb : letB c with
  | false => rfl
  | true => exact absurd (by simpa [letB] using hb) h
theorem u8_eq {c : UInt8} {n : Nat} (hn : n < 256) : c = UInt8.ofNat n ↔ c.toNat = n := by
  constructor
  · rintro rfl; simp; omega
  · intro h; rw [← UInt8.toNat_inj, h]; simp; omega
theorem partB_t {c : UInt8} (h : (65 ≤ c.toNat ∧ c.toNat ≤ 90) ∨ (97 ≤ c.toNat ∧ c.toNat ≤ 122) ∨ (48 ≤ c.toNat ∧ c.toNat ≤ 57) ∨ c.toNat = 95) : partB c = true := by
  have h95 : c = 95 ↔ c.toNat = 95 := u8_eq (n := 95) (by omega)
  simp only [partB, letB, Bool.or_eq_true, decide_eq_true_eq, beq_iff_eq, h95]; omega
theorem partB_f {c : UInt8} (h : ¬ ((65 ≤ c.toNat ∧ c.toNat ≤ 90) ∨ (97 ≤ c.toNat ∧ c.toNat ≤ 122) ∨ (48 ≤ c.toNat ∧ c.toNat ≤ 57) ∨ c.toNat = 95)) : partB c = false := by
  have h95 : c = 95 ↔ c.toNat = 95 := u8_eq (n := 95) (by omega)
  cases hb : partB c with
  | false => rfl
  | true =>
    refine absurd ?_ h
    simp only [partB, letB, Bool.or_eq_true, decide_eq_true_eq, beq_iff_eq, h95] at hb; omega

set_option maxRecDepth 100000 in
set_option maxHeartbeats 4000000 in
theorem wName_any (l : List UInt8) (w : World) (hs : l.length ≤ 9223372036854775807) : Calls Tryz.prog 180 #[.string (bytesOf l)] w fun e w' => e = .returned (.bool (nameL l)) ∧ Below w.heap.size w w' := by
  have hcv := fun W => Lib.run_convert_string_bytes (P := Tryz.prog) W 9 112 5 (bytesOf l) Tryz.underlying9 Tryz.underlying112 Tryz.underlying5
  have hsz : (bytesOf l).size = l.length := bytesOf_size l
  go_enter Tryz.func180, Tryz.ntmps180
  go_wp2
  have hcell := fun j hj => Lib.bytesWorld_cell w 5 (bytesOf l) j hj
  have hbw := below_bytesWorld w 5 (bytesOf l)
  generalize Lib.bytesWorld w 5 (bytesOf l) = w1 at hcell hbw ⊢
  have Hcell := Lib.hid hcell
  clear hcell hcv
  go_loop [9] (fun i => ∃ k : Nat, i = .int .i64 k ∧ k ≤ l.length ∧ Hid (nameU (l.take k) = true)) (fun i => l.length - (intOf i).toNat)
  case atStart => exact ⟨0, rfl, by omega, rfl⟩
  case round =>
    obtain ⟨k, rfl, hk, Hm⟩ := hrel
    by_cases hlt : k < l.length
    · obtain ⟨c, Hc⟩ : ∃ c, Hid (l[k]? = some c) := ⟨_, Lib.hid (List.getElem?_eq_getElem hlt)⟩
      have hc := Hcell.out k (by rw [bytesOf_size]; exact hlt)
      rw [bytesOf_list, List.getD_eq_getElem?_getD, Hc.out, Option.getD_some] at hc
      have HN := Lib.hid (nameU_next Hc.out Hm.out)
      have HE : Hid (nameU (l.take (k + 1)) = false → nameL l = false) := Lib.hid (fun h => by rw [nameL_eq, nameU_take h, Bool.false_and])
      have hc0 : 0 ≤ (c.toNat : Int) := by omega
      have hc255 : (c.toNat : Int) ≤ 255 := by have := c.toNat_lt; omega
      have HLT : Hid ((65 ≤ (c.toNat : Int) ∧ (c.toNat : Int) ≤ 90) ∨ (97 ≤ (c.toNat : Int) ∧ (c.toNat : Int) ≤ 122) → letB c = true ∧ partB c = true) := Lib.hid (fun h => ⟨letB_t (by omega), partB_t (by omega)⟩)
      have HLF : Hid (¬ ((65 ≤ (c.toNat : Int) ∧ (c.toNat : Int) ≤ 90) ∨ (97 ≤ (c.toNat : Int) ∧ (c.toNat : Int) ≤ 122)) → letB c = false) := Lib.hid (fun h => letB_f (by omega))
      have HPT : Hid ((48 ≤ (c.toNat : Int) ∧ (c.toNat : Int) ≤ 57) ∨ (c.toNat : Int) = 95 → partB c = true) := Lib.hid (fun h => partB_t (by omega))
      have HPF : Hid (¬ ((65 ≤ (c.toNat : Int) ∧ (c.toNat : Int) ≤ 90) ∨ (97 ≤ (c.toNat : Int) ∧ (c.toNat : Int) ≤ 122) ∨ (48 ≤ (c.toNat : Int) ∧ (c.toNat : Int) ≤ 57) ∨ (c.toNat : Int) = 95) → partB c = false) := Lib.hid (fun h => partB_f (by omega))
      generalize (c.toNat : Int) = z at hc hc0 hc255 HLT HLF HPT HPF
      rcases Nat.eq_zero_or_pos k with rfl | h0
      · rcases (by omega : (65 ≤ z ∧ z ≤ 90) ∨ (97 ≤ z ∧ z ≤ 122) ∨ (z < 65 ∨ (90 < z ∧ z < 97) ∨ 122 < z)) with ⟨hq, hq'⟩ | ⟨hq, hq'⟩ | hq
        iterate 2
          · have HV : Hid (nameU (l.take (0 + 1)) = true) := Lib.hid (by rw [HN.out, if_pos rfl]; exact (HLT.out (by omega)).1)
            clear HLT HLF HPT HPF HN HE
            try first | (have d65 : decide (65 ≤ z) = true := decide_eq_true (by omega)) | (have d65 : decide (65 ≤ z) = false := decide_eq_false (by omega))
            try first | (have d90 : decide (z ≤ 90) = true := decide_eq_true (by omega)) | (have d90 : decide (z ≤ 90) = false := decide_eq_false (by omega))
            try first | (have d97 : decide (97 ≤ z) = true := decide_eq_true (by omega)) | (have d97 : decide (97 ≤ z) = false := decide_eq_false (by omega))
            try first | (have d122 : decide (z ≤ 122) = true := decide_eq_true (by omega)) | (have d122 : decide (z ≤ 122) = false := decide_eq_false (by omega))
            try first | (have d48 : decide (48 ≤ z) = true := decide_eq_true (by omega)) | (have d48 : decide (48 ≤ z) = false := decide_eq_false (by omega))
            try first | (have d57 : decide (z ≤ 57) = true := decide_eq_true (by omega)) | (have d57 : decide (z ≤ 57) = false := decide_eq_false (by omega))
            try first | (have d95 : (z == 95) = true := beq_iff_eq.2 (by omega)) | (have d95 : (z == 95) = false := beq_eq_false_iff_ne.2 (by omega))
            go_wp2
            refine ⟨⟨0 + 1, by go_num, by omega, HV⟩, ?_⟩
            simp [intOf]; omega
        · have HV : Hid (nameL l = false) := Lib.hid (HE.out (by rw [HN.out, if_pos rfl]; exact HLF.out (by omega)))
          clear HLT HLF HPT HPF HN HE
          rcases hq with hq | ⟨hq, hq'⟩ | hq
          all_goals
            try first | (have d65 : decide (65 ≤ z) = true := decide_eq_true (by omega)) | (have d65 : decide (65 ≤ z) = false := decide_eq_false (by omega))
            try first | (have d90 : decide (z ≤ 90) = true := decide_eq_true (by omega)) | (have d90 : decide (z ≤ 90) = false := decide_eq_false (by omega))
            try first | (have d97 : decide (97 ≤ z) = true := decide_eq_true (by omega)) | (have d97 : decide (97 ≤ z) = false := decide_eq_false (by omega))
            try first | (have d122 : decide (z ≤ 122) = true := decide_eq_true (by omega)) | (have d122 : decide (z ≤ 122) = false := decide_eq_false (by omega))
            try first | (have d48 : decide (48 ≤ z) = true := decide_eq_true (by omega)) | (have d48 : decide (48 ≤ z) = false := decide_eq_false (by omega))
            try first | (have d57 : decide (z ≤ 57) = true := decide_eq_true (by omega)) | (have d57 : decide (z ≤ 57) = false := decide_eq_false (by omega))
            try first | (have d95 : (z == 95) = true := beq_iff_eq.2 (by omega)) | (have d95 : (z == 95) = false := beq_eq_false_iff_ne.2 (by omega))
            go_wp2
            go_ret
            exact ⟨by rw [HV.out]; rfl, hbw⟩
      · have hk0 : ((k : Int) == 0) = false := beq_eq_false_iff_ne.2 (by omega)
        rcases (by omega : (65 ≤ z ∧ z ≤ 90) ∨ (97 ≤ z ∧ z ≤ 122) ∨ (48 ≤ z ∧ z ≤ 57) ∨ z = 95 ∨ (z < 48 ∨ (57 < z ∧ z < 65) ∨ (90 < z ∧ z < 95) ∨ z = 96 ∨ 122 < z)) with ⟨hq, hq'⟩ | ⟨hq, hq'⟩ | ⟨hq, hq'⟩ | hq | hq
        iterate 4
          · have HV : Hid (nameU (l.take (k + 1)) = true) := Lib.hid (by rw [HN.out, if_neg (by omega)]; first | exact (HLT.out (by omega)).2 | exact HPT.out (by omega))
            clear HLT HLF HPT HPF HN HE
            try first | (have d65 : decide (65 ≤ z) = true := decide_eq_true (by omega)) | (have d65 : decide (65 ≤ z) = false := decide_eq_false (by omega))
            try first | (have d90 : decide (z ≤ 90) = true := decide_eq_true (by omega)) | (have d90 : decide (z ≤ 90) = false := decide_eq_false (by omega))
            try first | (have d97 : decide (97 ≤ z) = true := decide_eq_true (by omega)) | (have d97 : decide (97 ≤ z) = false := decide_eq_false (by omega))
            try first | (have d122 : decide (z ≤ 122) = true := decide_eq_true (by omega)) | (have d122 : decide (z ≤ 122) = false := decide_eq_false (by omega))
            try first | (have d48 : decide (48 ≤ z) = true := decide_eq_true (by omega)) | (have d48 : decide (48 ≤ z) = false := decide_eq_false (by omega))
            try first | (have d57 : decide (z ≤ 57) = true := decide_eq_true (by omega)) | (have d57 : decide (z ≤ 57) = false := decide_eq_false (by omega))
            try first | (have d95 : (z == 95) = true := beq_iff_eq.2 (by omega)) | (have d95 : (z == 95) = false := beq_eq_false_iff_ne.2 (by omega))
            go_wp2
            refine ⟨⟨k + 1, by go_num, by omega, HV⟩, ?_⟩
            simp [intOf]; omega
        · have HV : Hid (nameL l = false) := Lib.hid (HE.out (by rw [HN.out, if_neg (by omega)]; exact HPF.out (by omega)))
          clear HLT HLF HPT HPF HN HE
          rcases hq with hq | ⟨hq, hq'⟩ | ⟨hq, hq'⟩ | hq | hq
          all_goals
            try first | (have d65 : decide (65 ≤ z) = true := decide_eq_true (by omega)) | (have d65 : decide (65 ≤ z) = false := decide_eq_false (by omega))
            try first | (have d90 : decide (z ≤ 90) = true := decide_eq_true (by omega)) | (have d90 : decide (z ≤ 90) = false := decide_eq_false (by omega))
            try first | (have d97 : decide (97 ≤ z) = true := decide_eq_true (by omega)) | (have d97 : decide (97 ≤ z) = false := decide_eq_false (by omega))
            try first | (have d122 : decide (z ≤ 122) = true := decide_eq_true (by omega)) | (have d122 : decide (z ≤ 122) = false := decide_eq_false (by omega))
            try first | (have d48 : decide (48 ≤ z) = true := decide_eq_true (by omega)) | (have d48 : decide (48 ≤ z) = false := decide_eq_false (by omega))
            try first | (have d57 : decide (z ≤ 57) = true := decide_eq_true (by omega)) | (have d57 : decide (z ≤ 57) = false := decide_eq_false (by omega))
            try first | (have d95 : (z == 95) = true := beq_iff_eq.2 (by omega)) | (have d95 : (z == 95) = false := beq_eq_false_iff_ne.2 (by omega))
            go_wp2
            go_ret
            exact ⟨by rw [HV.out]; rfl, hbw⟩
    · have HE : Hid (nameL l = decide (1 ≤ l.length ∧ l.length ≤ 32)) := Lib.hid (by rw [nameL_eq, show nameU l = true by have := Hm.out; rwa [List.take_of_length_le (by omega)] at this, Bool.true_and])
      rcases (by omega : l.length = 0 ∨ (1 ≤ l.length ∧ l.length ≤ 32) ∨ 32 < l.length) with h | ⟨h, h'⟩ | h
      all_goals
        go_wp2
        go_ret
        exact ⟨ret_bool (by rw [HE.out]; first | exact (decide_eq_false (by omega)).symm | exact (decide_eq_true (by omega)).symm | (rw [decide_eq_decide]; omega)), hbw⟩

end Go.Proofs.YthlnfefpdmecaaaGreatDoor

/-
  props: meet, number, Class, slices.Clone (three), Names, Set, Ranged, walked.
-/
namespace Go.Proofs.YthlnfefpdmecaaaGreatDoor
open Go.RowKit Go.Maps

theorem info_cloneS : (Tryz.prog.info? 9).map (fun i => (i.zero, i.size, i.bytes)) = some (some (.string ByteArray.empty), 1, 16) := by kernel_rfl
theorem info_cloneR : (Tryz.prog.info? 146).map (fun i => (i.zero, i.size, i.bytes)) = some (some (.agg #[.int .i32 0, .int .i32 0]), 2, 8) := by kernel_rfl
theorem info_cloneD : (Tryz.prog.info? 128).map (fun i => (i.zero, i.size, i.bytes)) = some (some (.agg #[.int .i32 0, .int .i32 0, .int .i64 0]), 3, 16) := by kernel_rfl
theorem Rd.nextR {w : World} {A : Option Addr} {x : Int × Int} {l : List (Int × Int)} {b off : Nat} (h : Rd w 2 A ((x :: l).map encR)) (hA : A = some ⟨b, off, none⟩) : Rd w 2 (some ⟨b, off + 2, none⟩) (l.map encR) := by
  intro hn
  obtain ⟨b', off', e, hc⟩ := h (by simp)
  rw [hA] at e; injection e with e; injection e with e1 e2 _
  subst e1; subst e2
  refine ⟨b, off + 2, rfl, fun k j y u hy hu => ?_⟩
  have := hc (k + 1) j y u (by simpa using hy) hu
  rw [show off + (k + 1) * 2 + j = off + 2 + k * 2 + j by omega] at this
  exact this

theorem Rd.nextC {w : World} {x : Int × Int} {l : List (Int × Int)} {b off c : Nat} (h : Rd w 2 (some ⟨b, off, none⟩) ((x :: l).map encR)) (hc : l.length + 1 ≤ c) : Rd w 2 (if c = 1 then some ⟨b, off, none⟩ else some ⟨b, off + 2, none⟩) (l.map encR) := by
  by_cases e : c = 1
  · have : l = [] := List.eq_nil_of_length_eq_zero (by omega)
    subst this; exact Rd.nil_ _ _ _
  · rw [if_neg e]; exact h.nextR rfl

set_option maxRecDepth 100000 in
set_option maxHeartbeats 2000000 in
theorem wmeet_any (A B : Option Addr) (n c m e : Nat) (l q : List (Int × Int)) (w : World) (hA : Rd w 2 A (l.map encR)) (hB : Rd w 2 B (q.map encR)) (hl : l.length = n) (hq : q.length = m) (hn : n ≤ 4000000) (hm : m ≤ 4000000) (hc : n ≤ c) (he : m ≤ e) (h1 : Nf l) (h2 : Nf q) :
    Calls Tryz.prog 184 #[.slice A n c, .slice B m e] w fun e w' => e = .returned (.bool (meetB l q)) ∧ ∃ k, w' = w.drewN k := by
  have H1 := Lib.hid h1
  have H2 := Lib.hid h2
  have Hl := Lib.hid hl
  have Hq := Lib.hid hq
  clear h1 h2
  go_enter Tryz.func184, Tryz.ntmps184
  go_wp2
  go_loopw [0, 1] (fun u v wr => ∃ (i j k : Nat) (A1 B1 : Option Addr) (c1 e1 : Nat), u = .slice A1 (n - i) c1 ∧ v = .slice B1 (m - j) e1 ∧ n - i ≤ c1 ∧ m - j ≤ e1 ∧ Rd w 2 A1 ((l.drop i).map encR) ∧ Rd w 2 B1 ((q.drop j).map encR) ∧ i ≤ n ∧ j ≤ m ∧ Hid (MeetAt l q i j) ∧ wr = w.drewN k) (fun u v _ => (match u with | .slice _ n _ => n | _ => 0) + (match v with | .slice _ n _ => n | _ => 0))
  case atStart => exact ⟨0, 0, 0, A, B, c, e, rfl, rfl, hc, he, by rw [List.drop_zero]; exact hA, by rw [List.drop_zero]; exact hB, by omega, by omega, meetAt_first l q, rfl⟩
  case round =>
    obtain ⟨i, j, k, A1, B1, c1, e1, rfl, rfl, hc1, he1, hA1, hB1, hi, hj, HM, rfl⟩ := hrel
    by_cases hlt : i < n ∧ j < m
    · obtain ⟨hin, hjm⟩ := hlt
      obtain ⟨x, Hx⟩ : ∃ x, Hid (l[i]? = some x) := ⟨_, Lib.hid (List.getElem?_eq_getElem (show i < l.length by have := Hl.out; omega))⟩
      obtain ⟨y, Hy⟩ : ∃ y, Hid (q[j]? = some y) := ⟨_, Lib.hid (List.getElem?_eq_getElem (show j < q.length by have := Hq.out; omega))⟩
      have hA2 : Rd w 2 A1 ((x :: l.drop (i + 1)).map encR) := by rw [← drop_at Hx.out]; exact hA1
      have hB2 : Rd w 2 B1 ((y :: q.drop (j + 1)).map encR) := by rw [← drop_at Hy.out]; exact hB1
      obtain ⟨b, off, rfl, hcx⟩ := hA2 (by simp)
      obtain ⟨b', off', rfl, hcy⟩ := hB2 (by simp)
      have x1 := hcx 0 0 (encR x) (.int .i32 x.1) rfl rfl
      have x2 := hcx 0 1 (encR x) (.int .i32 x.2) rfl rfl
      have y1 := hcy 0 0 (encR y) (.int .i32 y.1) rfl rfl
      have y2 := hcy 0 1 (encR y) (.int .i32 y.2) rfl rfl
      simp only [Nat.zero_mul, Nat.add_zero] at x1 x2 y1 y2
      have HA3 := Lib.hid (hA2.nextC (c := c1) (by have := Hl.out; rw [List.length_drop]; omega))
      have HB3 := Lib.hid (hB2.nextC (c := e1) (by have := Hq.out; rw [List.length_drop]; omega))
      have HA2 := Lib.hid hA1
      have HB2 := Lib.hid hB1
      have HL := Lib.hid (fun h => meetAt_left HM.out H2.out Hx.out Hy.out h)
      have HR := Lib.hid (fun h => meetAt_right HM.out H1.out Hx.out Hy.out h)
      have HH := Lib.hid (fun h h' => meetAt_here HM.out Hx.out Hy.out h h')
      clear hcx hcy hA1 hB1 hA2 hB2
      have HD1 := Lib.hid (drop_at Hx.out)
      have HD2 := Lib.hid (drop_at Hy.out)
      by_cases hxy : x.2 < y.1
      · go_wp2_with fail
        go_quiet (fail)
        go_wp2
        go_roundw
        case rel => exact ⟨i + 1, j, _, _, _, c1 - 1, e1, by rw [show n - (i + 1) = n - i - 1 by omega], rfl, by omega, he1, HA3.out, HB2.out, by omega, by omega, Lib.hid (HL.out hxy), rfl⟩
        case measure => simp only []; omega
      · by_cases hyx : y.2 < x.1
        · go_wp2_with fail
          go_quiet (fail)
          go_wp2_with fail
          go_quiet (fail)
          go_wp2
          go_roundw
          case rel => exact ⟨i, j + 1, _, _, _, c1, e1 - 1, rfl, by rw [show m - (j + 1) = m - j - 1 by omega], hc1, by omega, HA2.out, HB3.out, by omega, by omega, Lib.hid (HR.out hyx), rfl⟩
          case measure => simp only []; omega
        · have HE := Lib.hid (HH.out hxy hyx)
          go_wp2_with fail
          go_quiet (fail)
          go_wp2_with fail
          go_quiet (fail)
          go_wp2
          go_ret
          exact ⟨by rw [HE.out]; rfl, _, by rw [World.drewN_drewN, World.drewN_drewN]⟩
    · have HE := Lib.hid (meetAt_end HM.out (by have := Hl.out; have := Hq.out; omega))
      rcases (by omega : ¬ i < n ∨ (i < n ∧ ¬ j < m)) with h | ⟨h, h'⟩
      all_goals
        go_wp2
        go_ret
        exact ⟨by rw [HE.out]; rfl, k, rfl⟩

/-- What number hands back. -/
def numV : Except Int Nat → Value
  | .ok c => .tuple #[.int .i64 c, .int .i64 0]
  | .error x => .tuple #[.int .i64 0, .int .i64 x]
set_option maxRecDepth 100000 in
set_option maxHeartbeats 1000000 in
theorem wnumber_any (p bm nm nn cn ns cs : Nat) (An As : Option Addr) (v3 : Value) (d : DbP) (D : DataW Unit) (n : List UInt8) (w : World) (hp : Blk w p 131 #[.slice An nn cn, .map (some bm), .slice As ns cs, v3])
    (hm : w.ownsMap Tryz.prog 9 (plainElem (H := Unit) Tryz.prog 3) bm nm D) (hD : MapIs D d.names) (hl : d.names.length = nn) (hd : d.names.Nodup) (hf : nn ≤ 64) (hn : n.length ≤ 1000000) :
    Calls Tryz.prog 183 #[.pointer (some ⟨p, 0, none⟩), .string (bytesOf n)] w fun e w' => e = .returned (numV (nbrP d n)) ∧ w' = w := by
  have c0 := hp.cell 0
  have c1 := hp.cell 1
  simp at c0 c1
  have HL := Lib.hid (hD.look hd n)
  have HK := Lib.hid (keyS hn)
  have HN : Hid (nbrP d n = match d.names.idxOf? n with | some c => .ok c | none => if 64 ≤ d.names.length then .error 6 else .ok d.names.length) := rfl
  cases hq : d.names.idxOf? n with
  | some c =>
    have HV : Hid (Maps.has D (.string n) = true) := Lib.hid (by rw [HL.out.2, hq]; rfl)
    have HA : Hid (D.atKey (.string n) (.lit (.int .i64 0)) = .lit (.int .i64 (c : Int))) := Lib.hid (by rw [HL.out.1, hq]; rfl)
    have HR : Hid (nbrP d n = .ok c) := Lib.hid (by rw [HN.out, hq])
    clear HL HN hq
    go_enter Tryz.func183, Tryz.ntmps183
    go_wp2_with (at_lookup; refine wpList_lookup_own_ok_int _ rfl _ _ 129 rfl 9 3 .i64 keyedS Tryz.underlying129 Tryz.underlying3 (zeroI _) bm nm D rfl hm _ (.string n) rfl HK.out ?_; intro z hz hw; rw [HA.out] at hz; injection hz with hz; injection hz with _ hz; subst hz; rw [HV.out])
    go_ret2
    exact ⟨by rw [HR.out]; rfl, rfl⟩
  | none =>
    have HV : Hid (Maps.has D (.string n) = false) := Lib.hid (by rw [HL.out.2, hq]; rfl)
    have HR : Hid (nbrP d n = if 64 ≤ nn then .error 6 else .ok nn) := Lib.hid (by rw [HN.out, hq, hl])
    clear HL HN hq
    by_cases h64 : nn = 64
    · have HR' : Hid (nbrP d n = .error 6) := Lib.hid (by rw [HR.out, if_pos (by omega)])
      go_enter Tryz.func183, Tryz.ntmps183
      go_wp2_with (at_lookup; refine wpList_lookup_own_ok_int _ rfl _ _ 129 rfl 9 3 .i64 keyedS Tryz.underlying129 Tryz.underlying3 (zeroI _) bm nm D rfl hm _ (.string n) rfl HK.out ?_; intro z hz hw; clear hz; rw [HV.out])
      go_ret2
      exact ⟨by rw [HR'.out]; rfl, rfl⟩
    · have HR' : Hid (nbrP d n = .ok nn) := Lib.hid (by rw [HR.out, if_neg (by omega)])
      have he : ((nn : Int) == 64) = false := beq_eq_false_iff_ne.2 (by omega)
      go_enter Tryz.func183, Tryz.ntmps183
      go_wp2_with (at_lookup; refine wpList_lookup_own_ok_int _ rfl _ _ 129 rfl 9 3 .i64 keyedS Tryz.underlying129 Tryz.underlying3 (zeroI _) bm nm D rfl hm _ (.string n) rfl HK.out ?_; intro z hz hw; clear hz; rw [HV.out])
      go_ret2
      exact ⟨by rw [HR'.out]; rfl, rfl⟩

end Go.Proofs.YthlnfefpdmecaaaGreatDoor

/-
  props: quoted, find, line, walked; the library's Trim of blanks.
-/
namespace Go.Proofs.YthlnfefpdmecaaaGreatDoor
open Go.RowKit

theorem rest_drop (s : ByteArray) (a : Nat) : (s.extract a s.size).data.toList = s.data.toList.drop a := rest_extract s a
theorem take_extract (s : ByteArray) (a : Nat) : (s.extract 0 a).data.toList = s.data.toList.take a := by rw [Lib.extract_data]; simp
theorem empty_of {s : ByteArray} (h : s.size = 0) : s = ⟨#[]⟩ := by
  apply ByteArray.ext
  exact Array.eq_empty_of_size_eq_zero h
theorem ne_empty {s : ByteArray} (h : 0 < s.size) : ¬ s = ⟨#[]⟩ := fun e => by subst e; exact absurd h (by decide)
theorem get_list {s : ByteArray} {p : Nat} (h : p < s.size) : s.data.toList[p]? = some (s[p]'h) := List.getElem?_eq_getElem (by simpa using h)

set_option maxRecDepth 100000 in
set_option maxHeartbeats 1000000 in
theorem wquoted_any (s : ByteArray) (w : World) (hT : Tabs w) (hs : s.size ≤ 1000000) :
    Calls Tryz.prog 210 #[.string s] w fun e w' => e = .returned (.int .i64 ((qtL s.data.toList).getD 0 : Nat)) ∧ Below w.heap.size w w' := by
  rcases Nat.eq_zero_or_pos s.size with h0 | h0
  · obtain rfl := empty_of h0
    go_enter Tryz.func210, Tryz.ntmps210
    go_wp2
    go_ret
    exact ⟨rfl, Below.refl _ _⟩
  · have e0 := notEmpty h0
    have hix := index_at s 0 0 rfl h0
    by_cases hq : s[0]'h0 = 39
    · have HD := Lib.hid (lDecode_any s 1 w hT (by omega))
      obtain ⟨hb1, hb2, hb3⟩ := runeAt_bd s 1 (by omega)
      have HN := Lib.hid (@qt_zero s)
      have HO := Lib.hid (@qt_open s)
      have HG := Lib.hid (@qt_ok s h0 hq)
      generalize (runeAt s 1).2 = n at HD HN HO HG hb1 hb2
      generalize (runeAt s 1).1 = r at HD hb3
      have hq0 : (((s[0]'h0).toNat : Int) != 39) = false := by rw [hq]; rfl
      rcases Nat.eq_zero_or_pos n with hn | hn
      · have HE := Lib.hid (HN.out hn)
        subst hn
        go_enter Tryz.func210, Tryz.ntmps210
        go_wp2_with (go_at_call 113; refine HD.out.mono ?_; rintro e w2 ⟨rfl, hbw⟩)
        go_ret
        exact ⟨by rw [HE.out]; rfl, hbw⟩
      · have hn0 : ((n : Int) == 0) = false := beq_eq_false_iff_ne.2 (by omega)
        by_cases hp : n + 1 < s.size
        · have hix2 := index_at s ((n : Int) + 1) (n + 1) (by omega) hp
          have hd : decide ((s.size : Int) < (n : Int) + 2) = false := decide_eq_false (by omega)
          by_cases hq2 : s[n + 1]'hp = 39
          · have HE := Lib.hid (HG.out (by omega) (by rw [get_list hp, hq2]))
            have hq3 : (((s[n + 1]'hp).toNat : Int) != 39) = false := by rw [hq2]; rfl
            go_enter Tryz.func210, Tryz.ntmps210
            go_wp2_with (go_at_call 113; refine HD.out.mono ?_; rintro e w2 ⟨rfl, hbw⟩)
            go_ret
            exact ⟨by rw [HE.out]; rfl, hbw⟩
          · have HE := Lib.hid (HO.out (by rw [get_list hp]; simpa using hq2))
            have hq3 : (((s[n + 1]'hp).toNat : Int) != 39) = true := by
              rw [bne_iff_ne]; intro e
              exact hq2 (UInt8.toNat_inj.1 (by have : (s[n + 1]'hp).toNat = 39 := by omega
                                               rw [this]; rfl))
            go_enter Tryz.func210, Tryz.ntmps210
            go_wp2_with (go_at_call 113; refine HD.out.mono ?_; rintro e w2 ⟨rfl, hbw⟩)
            go_ret
            exact ⟨by rw [HE.out]; rfl, hbw⟩
        · have hd : decide ((s.size : Int) < (n : Int) + 2) = true := decide_eq_true (by omega)
          have HE := Lib.hid (HO.out (by rw [List.getElem?_eq_none (by rw [size_data]; omega)]; simp))
          go_enter Tryz.func210, Tryz.ntmps210
          go_wp2_with (go_at_call 113; refine HD.out.mono ?_; rintro e w2 ⟨rfl, hbw⟩)
          go_ret
          exact ⟨by rw [HE.out]; rfl, hbw⟩
    · have HE := Lib.hid (qt_no (s := s) (fun _ => hq))
      have hq3 : (((s[0]'h0).toNat : Int) != 39) = true := by
        rw [bne_iff_ne]; intro e
        exact hq (UInt8.toNat_inj.1 (by have : (s[0]'h0).toNat = 39 := by omega
                                        rw [this]; rfl))
      go_enter Tryz.func210, Tryz.ntmps210
      go_wp2
      go_ret
      exact ⟨by rw [HE.out]; rfl, Below.refl _ _⟩

set_option maxRecDepth 100000 in
set_option maxHeartbeats 1000000 in
theorem wfind_any (s : ByteArray) (c : UInt8) (z : Int) (hz : z = (c.toNat : Int)) (w : World) (hT : Tabs w) (hs : s.size ≤ 1000000) :
    Calls Tryz.prog 178 #[.string s, .int .u8 z] w fun e w' => e = .returned (.int .i64 (fv (findP c s.data.toList))) ∧ Below w.heap.size w w' := by
  have hsz : s.data.toList.length = s.size := size_data s
  have Hsz := Lib.hid hsz
  have Hz := Lib.hid hz
  clear hz
  go_enter Tryz.func178, Tryz.ntmps178
  go_wp2
  go_loopw [5] (fun v wr => ∃ i : Nat, v = .int .i64 i ∧ i ≤ s.size ∧ Hid (FindAt c s.data.toList i) ∧ Below w.heap.size w wr) (fun v _ => s.size - (intOf v).toNat)
  case atStart => exact ⟨0, rfl, by omega, findAt_first _ _, Below.refl _ _⟩
  case round =>
    obtain ⟨i, rfl, hi, HF, hb⟩ := hrel
    by_cases hlt : i < s.size
    · have HQ := Lib.hid (wquoted_any (s.extract i s.size) wr (hT.below hb) (by rw [ByteArray.size_extract]; omega))
      rw [rest_drop] at HQ
      have hix := index_at s i i rfl hlt
      cases hq : qtL (s.data.toList.drop i) with
      | some k =>
        rw [hq] at HQ
        have hk := qtL_some hq
        have hk3 := hk.1
        have hkl : i + k ≤ s.size := by have := hk.2.2.1; rw [List.length_drop, Hsz.out] at this; omega
        have HF' := Lib.hid (findAt_qt HF.out hq)
        have Hq := Lib.hid hq
        clear hk hq
        go_wp2_with (go_at_call 210; refine HQ.out.mono ?_; rw [Option.getD_some]; rintro e w2 ⟨rfl, hb2⟩)
        go_roundw
        case rel =>
          exact ⟨i + k, by go_num, hkl, HF', below_step hb hb2 hb.size⟩
        case measure => simp [intOf]; omega
      | none =>
        rw [hq] at HQ
        by_cases hc : s[i]'hlt = c
        · have HE := Lib.hid (findAt_hit HF.out (by rw [get_list hlt, hc]) hq)
          have hzz : (((s[i]'hlt).toNat : Int) == z) = true := by rw [hc, Hz.out]; simp
          clear hq hc
          go_wp2_with (go_at_call 210; refine HQ.out.mono ?_; rw [Option.getD_none]; rintro e w2 ⟨rfl, hb2⟩)
          go_ret
          exact ⟨by rw [HE.out]; rfl, below_step hb hb2 hb.size⟩
        · have HF' := Lib.hid (findAt_byte HF.out (get_list hlt) hq hc)
          have hzz : (((s[i]'hlt).toNat : Int) == z) = false := beq_eq_false_iff_ne.2 (fun e => hc (UInt8.toNat_inj.1 (by have := Hz.out; omega)))
          clear hq
          go_wp2_with (go_at_call 210; refine HQ.out.mono ?_; rw [Option.getD_none]; rintro e w2 ⟨rfl, hb2⟩)
          go_roundw
          case rel =>
            exact ⟨i + 1, by go_num, by omega, HF', below_step hb hb2 hb.size⟩
          case measure => simp [intOf]; omega
    · have HE := Lib.hid (findAt_end HF.out (by rw [Hsz.out]; exact hlt))
      go_wp2
      go_ret
      exact ⟨by rw [HE.out]; rfl, hb⟩

theorem zero256 : ∀ w, (zeroValue 200).run Tryz.prog w = .ok (.agg (Array.replicate 256 (.bool false))) w := by intro w; kernel_rfl
theorem size256 : (Tryz.prog.info? 200).map (·.size) = some 256 := by kernel_rfl
theorem lTrim_any (s : ByteArray) (w : World) (hs : s.size ≤ 1000000) :
    Calls Tryz.prog 179 #[.string s, .string ⟨#[32, 9]⟩] w fun e w' => e = .returned (.string (bytesOf (trimL s.data.toList))) ∧ Below w.heap.size w w' := by
  rcases Nat.eq_zero_or_pos s.size with h0 | h0
  · have h := Any.strings_Trim_empty Tryz.lays160 s ⟨#[32, 9]⟩ w (.inl h0)
    obtain rfl := empty_of h0
    refine h.mono ?_
    rintro e w' ⟨rfl, rfl⟩
    exact ⟨rfl, Below.refl _ _⟩
  · have h := Any.strings_Trim_set Tryz.lays160 zero256 size256 s ⟨#[32, 9]⟩ w (show 2 ≤ 2 by omega) h0 (by omega) (show 2 < 4294967281 by omega) (fun j b hj => by
      match j, hj with
      | 0, hj => simp at hj; subst hj; decide
      | 1, hj => simp at hj; subst hj; decide
      | j + 2, hj => simp at hj)
    refine h.mono ?_
    rintro e w' ⟨rfl, q, rfl⟩
    refine ⟨?_, below_drewN (((Below.refl _ _).alloc (Nat.le_refl _) _).alloc (by simp) _) _⟩
    rw [show (ByteArray.mk #[32, 9]).data.toList = [32, 9] from rfl, trimS_eq]; rfl

set_option maxRecDepth 100000 in
set_option maxHeartbeats 1000000 in
theorem wline_any (s : ByteArray) (w : World) (hT : Tabs w) (hs : s.size ≤ 1000000) :
    Calls Tryz.prog 146 #[.string s] w fun e w' => e = .returned (.string (bytesOf (lineU s.data.toList))) ∧ Below w.heap.size w w' := by
  have HF := Lib.hid (wfind_any s 35 35 rfl w hT hs)
  have hlt := fun i h => (List.getElem?_eq_some_iff.1 (findP_lt (c := 35) _ s.data.toList (Nat.le_refl _) i h)).1
  rw [size_data] at hlt
  have HU : Hid (lineU s.data.toList = trimL (s.data.toList.take ((findP 35 s.data.toList).getD s.data.toList.length))) := rfl
  cases hq : findP 35 s.data.toList with
  | none =>
    rw [hq] at HF HU
    rw [Option.getD_none, List.take_length] at HU
    clear hq hlt
    go_enter Tryz.func146, Tryz.ntmps146
    go_wp2_with (first | (go_at_call 178; refine HF.out.mono ?_; rw [show fv none = -1 from rfl]; rintro e w2 ⟨rfl, hb2⟩) | (go_at_call 179; refine (lTrim_any s _ hs).mono ?_; rintro e w3 ⟨rfl, hb3⟩))
    go_ret
    exact ⟨by rw [HU.out]; rfl, below_two hb2 hb3⟩
  | some i =>
    have hi := hlt i hq
    rw [hq] at HF HU
    rw [Option.getD_some, ← take_extract] at HU
    clear hq hlt
    go_enter Tryz.func146, Tryz.ntmps146
    go_wp2_with (first | (go_at_call 178; refine HF.out.mono ?_; rw [show fv (some i) = (i : Int) from rfl]; rintro e w2 ⟨rfl, hb2⟩) | (go_at_call 179; refine (lTrim_any (s.extract 0 i) _ (by rw [ByteArray.size_extract]; omega)).mono ?_; rintro e w3 ⟨rfl, hb3⟩))
    go_ret
    exact ⟨by rw [HU.out, take_extract]; rfl, below_two hb2 hb3⟩
end Go.Proofs.YthlnfefpdmecaaaGreatDoor

/-
  WORDS FOR MEMORY, props: the steps by which a database is made: a name more, a set more, a set stored. No program's walk.
-/
namespace Go.Proofs.YthlnfefpdmecaaaGreatDoor
open Go.RowKit Go.Maps

section
variable {w : World} {base p x : Nat} {An : Option Addr} {nn cn bm nm : Nat} {D : DataW Unit} {As : Option Addr} {ns cs : Nat} {xs : List (Option Addr × Nat × Nat)} {N : List (List UInt8)} {S : List (List (Int × Int))}
theorem DbX.lenN (h : DbX w base p x An nn cn bm nm D As ns cs xs N S) : N.length = nn := by simpa using h.hn.len
theorem DbX.lenS (h : DbX w base p x An nn cn bm nm D As ns cs xs N S) : xs.length = ns ∧ S.length = ns := by
  have := h.hs.len; rw [List.length_map] at this
  exact ⟨this, by rw [← h.hx.len]; exact this⟩
theorem types_ne : (9 : TypeId) ≠ 111 ∧ (9 : TypeId) ≠ 131 ∧ (111 : TypeId) ≠ 131 ∧ (9 : TypeId) ≠ 146 ∧ (111 : TypeId) ≠ 146 ∧ (131 : TypeId) ≠ 146 := by decide
/-- Rows of ranges from base on stand as they stood. -/
def KeepR (base : Nat) (w w' : World) : Prop := ∀ (g : Nat) (cur : Array Value), base ≤ g → w.heap[g]? = some (.cells cur 146 (0, 0)) → w'.heap[g]? = w.heap[g]?
theorem KeepR.trans {base : Nat} {a b c : World} (h : KeepR base a b) (k : KeepR base b c) : KeepR base a c := fun g cur hg e => (k g cur hg ((h g cur hg e).trans e)).trans (h g cur hg e)
theorem KeepR.below {base : Nat} {w w' : World} (hb : Below w.heap.size w w') : KeepR base w w' := fun g _ _ e => hb.block g (Array.getElem?_eq_some_iff.1 e).1
theorem KeepR.grown {base : Nat} {w w' : World} {row : Option Nat} (hg : w.grownBy w' row) (hr : ∀ g (q : Array Value), row = some g → w.heap[g]? ≠ some (.cells q 146 (0, 0))) : KeepR base w w' := fun g cur _ e => hg.block g (Array.getElem?_eq_some_iff.1 e).1 fun k => hr g cur k.symm e
theorem KeepR.setCell {base : Nat} {w : World} {q : Addr} (hq : ∀ r : Array Value, w.heap[q.block]? ≠ some (.cells r 146 (0, 0))) (u : Value) : KeepR base w (w.setCell q u) := fun g cur _ e => Below.heap_setCell w q u g fun k => hq cur (by rw [← k]; exact e)
theorem Own.keepR {base b : Nat} {w w' : World} {A : Option Addr} {n c : Nat} {cs : List (List Value)} (h : Own w b 146 2 A n c cs) (k : KeepR base w w') (hb : base ≤ b) : Own w' b 146 2 A n c cs := by
  refine h.keep fun a ha => ?_
  rcases h.2.2.2 with ⟨h0, _⟩ | ⟨g1, cap1, cur1, hv1, hg, hh1, _⟩
  · injection h0 with h0; rw [h0] at ha; cases ha
  · injection hv1 with hv1; rw [hv1] at ha; injection ha with ha; subst ha
    exact k g1 cur1 (by omega) hh1
/-- Behind the map's update: all but the map. -/
theorem DbX.mapped {w1 : World} (h : DbX w base p x An nn cn bm nm D As ns cs xs N S) (hg : w.grownBy w1 (some bm)) :
    Blk w1 p 131 #[.slice An nn cn, .map (some bm), .slice As ns cs, .slice none 0 0] ∧ Own w1 base 9 1 An nn cn (N.map encNm) ∧ Own w1 base 111 1 As ns cs (xs.map encSl) ∧ Sets w1 base xs S :=
  ⟨h.blk.grown hg (fun e => h.blk.offMap h.hm (by injection e)), h.hn.grown hg (fun a ha e => h.hn.offMap h.hm a ha (by injection e)), h.hs.grown hg (fun a ha e => h.hs.offMap h.hm a ha (by injection e)),
    h.hx.grown hg (fun g q e => by injection e with e; subst e; exact map_not_R h.hm q)⟩
/-- A name more. -/
theorem DbX.named {w1 w3 : World} {o : Obj} {n : List UInt8} {k : Int} {A3 : Option Addr} {c3 : Nat} (h : DbX w base p x An nn cn bm nm D As ns cs xs N S) (hk : k = N.length) (hown : w1.ownsMap Tryz.prog 9 (plainElem (H := Unit) Tryz.prog 3) bm (nm + 1) (D.put (.string n) (.lit (.int .i64 k))))
    (hg1 : w.grownBy w1 (some bm)) (ho3 : Own w3 base 9 1 A3 (nn + 1) c3 ((N ++ [n]).map encNm)) (hg3 : (w1.alloc o).grownBy w3 (An.map (·.block))) (hA3 : A3 = An ∨ A3 = some ⟨(w1.alloc o).heap.size, 0, none⟩) (hx : x < w.heap.size) (hB : base ≤ w.heap.size) :
    Blk w3 p 131 #[.slice An nn cn, .map (some bm), .slice As ns cs, .slice none 0 0] ∧ DbX (w3.setCell ⟨p, 0, none⟩ (.slice A3 (nn + 1) c3)) base p x A3 (nn + 1) c3 bm (nm + 1) (D.put (.string n) (.lit (.int .i64 k))) As ns cs xs (N ++ [n]) S ∧
      KX base x w (w3.setCell ⟨p, 0, none⟩ (.slice A3 (nn + 1) c3)) ∧ KeepR base w (w3.setCell ⟨p, 0, none⟩ (.slice A3 (nn + 1) c3)) := by
  obtain ⟨t1, t2, t3, t4, t5, t6⟩ := types_ne
  obtain ⟨b1, n1, s1, x1⟩ := h.mapped hg1
  have hg := grown_alloc hg3
  have hpA : ∀ a, An = some a → a.block ≠ p := n1.off b1 t2
  have b3 : Blk w3 p 131 #[.slice An nn cn, .map (some bm), .slice As ns cs, .slice none 0 0] := b1.grown hg (fun e => by cases An with | none => cases e | some a => simp at e; exact hpA a rfl e.symm)
  have s3 : Own w3 base 111 1 As ns cs (xs.map encSl) := s1.grown hg (fun a ha e => by cases An with | none => cases e | some b => simp at e; exact n1.apart s1 t1 b a rfl ha e.symm)
  have x3 : Sets w3 base xs S := x1.grown hg (fun g q e => own_not_R n1 t4 g q e)
  have m3 := map_kept hown hg (fun e => by cases An with | none => cases e | some a => simp at e; exact n1.offMap hown a rfl e.symm)
  have hsz1 := hg1.size
  have hxA3 : ∀ a, A3 = some a → a.block ≠ x := fun a ha => by
    rcases hA3 with e | e
    · exact h.xn a (by rw [← e]; exact ha)
    · rw [e] at ha; injection ha with ha; subst ha; simp; omega
  refine ⟨b3, ⟨?_, h.pb, ?_, ?_, ?_, h.bb, h.hD.put n hk, ?_, ?_, h.xp, h.xb, hxA3, h.xs_⟩, ?_, ?_⟩
  · have := b3.set_ 0 (.slice A3 (nn + 1) c3)
    simpa using this
  · exact ho3.setCell (fun a ha => ho3.off b3 t2 a ha) _
  · exact map_setCell m3 (fun e => b3.offMap m3 e.symm) _
  · have := h.nle; omega
  · exact s3.setCell (fun a ha => s3.off b3 t3 a ha) _
  · exact x3.setCell (blk_not_R b3 t6) _
  · refine (KX.grown hg1 hB (fun k hk => by injection hk with hk; subst hk; exact ⟨h.bb, fun e => h.xb e.symm⟩)).trans ((KX.grown hg (by omega) (fun k hk => ?_)).trans (KX.setCell w3 h.pb (fun e => h.xp e.symm) _))
    cases An with
    | none => cases hk
    | some a => simp at hk; subst hk; exact ⟨(n1.lt a rfl).1, h.xn a rfl⟩
  · exact (KeepR.grown hg1 (fun g q e => by injection e with e; subst e; exact map_not_R h.hm q)).trans ((KeepR.grown hg (fun g q e => own_not_R n1 t4 g q e)).trans (KeepR.setCell (blk_not_R b3 t6) _))
/-- A set more: none yet. -/
theorem DbX.moreSet {w3 : World} {o : Obj} {A3 : Option Addr} {c3 : Nat} (h : DbX w base p x An nn cn bm nm D As ns cs xs N S) (ho3 : Own w3 base 111 1 A3 (ns + 1) c3 ((xs ++ [(none, 0, 0)]).map encSl))
    (hg3 : (w.alloc o).grownBy w3 (As.map (·.block))) (hA3 : A3 = As ∨ A3 = some ⟨(w.alloc o).heap.size, 0, none⟩) (hx : x < w.heap.size) (hB : base ≤ w.heap.size) :
    Blk w3 p 131 #[.slice An nn cn, .map (some bm), .slice As ns cs, .slice none 0 0] ∧ DbX (w3.setCell ⟨p, 2, none⟩ (.slice A3 (ns + 1) c3)) base p x An nn cn bm nm D A3 (ns + 1) c3 (xs ++ [(none, 0, 0)]) N (S ++ [[]]) ∧
      KX base x w (w3.setCell ⟨p, 2, none⟩ (.slice A3 (ns + 1) c3)) ∧ KeepR base w (w3.setCell ⟨p, 2, none⟩ (.slice A3 (ns + 1) c3)) := by
  obtain ⟨t1, t2, t3, t4, t5, t6⟩ := types_ne
  have hg := grown_alloc hg3
  have b3 : Blk w3 p 131 #[.slice An nn cn, .map (some bm), .slice As ns cs, .slice none 0 0] := h.blk.grown hg (fun e => by cases As with | none => cases e | some a => simp at e; exact h.hs.off h.blk t3 a rfl e.symm)
  have n3 : Own w3 base 9 1 An nn cn (N.map encNm) := h.hn.grown hg (fun a ha e => by cases As with | none => cases e | some b => simp at e; exact h.hn.apart h.hs t1 a b ha rfl e)
  have x3 : Sets w3 base xs S := h.hx.grown hg (fun g q e => own_not_R h.hs t5 g q e)
  have m3 := map_kept h.hm hg (fun e => by cases As with | none => cases e | some a => simp at e; exact h.hs.offMap h.hm a rfl e.symm)
  have hxA3 : ∀ a, A3 = some a → a.block ≠ x := fun a ha => by
    rcases hA3 with e | e
    · exact h.xs_ a (by rw [← e]; exact ha)
    · rw [e] at ha; injection ha with ha; subst ha; simp; omega
  refine ⟨b3, ⟨?_, h.pb, ?_, ?_, h.nle, h.bb, h.hD, ?_, ?_, h.xp, h.xb, h.xn, hxA3⟩, ?_, ?_⟩
  · have := b3.set_ 2 (.slice A3 (ns + 1) c3)
    simpa using this
  · exact n3.setCell (fun a ha => n3.off b3 t2 a ha) _
  · exact map_setCell m3 (fun e => b3.offMap m3 e.symm) _
  · exact ho3.setCell (fun a ha => ho3.off b3 t3 a ha) _
  · exact (x3.setCell (blk_not_R b3 t6) _).snoc (Own.nil_ _ _ _ _)
  · refine (KX.grown hg hB (fun k hk => ?_)).trans (KX.setCell w3 h.pb (fun e => h.xp e.symm) _)
    cases As with
    | none => cases hk
    | some a => simp at hk; subst hk; exact ⟨(h.hs.lt a rfl).1, h.xs_ a rfl⟩
  · exact (KeepR.grown hg (fun g q e => own_not_R h.hs t5 g q e)).trans (KeepR.setCell (blk_not_R b3 t6) _)
theorem Own.storedSl {w : World} {base : Nat} {e : TypeId} {g n c k : Nat} {xs : List (Option Addr × Nat × Nat)} (h : Own w base e 1 (some ⟨g, 0, none⟩) n c (xs.map encSl)) (hk : k < xs.length) (y : Option Addr × Nat × Nat) :
    Own (w.setCell ⟨g, k, none⟩ (.slice y.1 y.2.1 y.2.2)) base e 1 (some ⟨g, 0, none⟩) n c ((xs.set k y).map encSl) := by
  have h1 := h.stored (k := k) (j := 0) (x := encSl xs[k]) (by simp [hk]) (by omega) (.slice y.1 y.2.1 y.2.2)
  rw [Nat.mul_one, Nat.add_zero] at h1
  have e : (xs.map encSl).set k ((encSl xs[k]).set 0 (.slice y.1 y.2.1 y.2.2)) = (xs.set k y).map encSl := by rw [List.map_set]; rfl
  rw [e] at h1
  exact h1
theorem Own.cell' {w : World} {base n c g k : Nat} {e : TypeId} {A : Option Addr} {xs : List (Option Addr × Nat × Nat)} {y : Option Addr × Nat × Nat} (h : Own w base e 1 A n c (xs.map encSl)) (hA : A = some ⟨g, 0, none⟩) (hy : xs[k]? = some y) : w.cell? ⟨g, k, none⟩ = some (.slice y.1 y.2.1 y.2.2) := by
  subst hA
  have := h.cell (k := k) (j := 0) (x := encSl y) (u := .slice y.1 y.2.1 y.2.2) (by rw [List.getElem?_map, hy]; rfl) rfl
  simpa using this
/-- A set stored. -/
theorem DbX.storeSet {g k b' : Nat} {y : Option Addr × Nat × Nat} {l : List (Int × Int)} (h : DbX w base p x An nn cn bm nm D (some ⟨g, 0, none⟩) ns cs xs N S) (hk : k < ns) (ho : Own w b' 146 2 y.1 y.2.1 y.2.2 (l.map encR)) (hb : base ≤ b') :
    DbX (w.setCell ⟨g, k, none⟩ (.slice y.1 y.2.1 y.2.2)) base p x An nn cn bm nm D (some ⟨g, 0, none⟩) ns cs (xs.set k y) N (S.set k l) ∧ KX base x w (w.setCell ⟨g, k, none⟩ (.slice y.1 y.2.1 y.2.2)) := by
  obtain ⟨t1, t2, t3, t4, t5, t6⟩ := types_ne
  have hgp : g ≠ p := h.hs.off h.blk t3 _ rfl
  refine ⟨⟨h.blk.far (p := ⟨g, k, none⟩) (Ne.symm hgp) _, h.pb, ?_, ?_, h.nle, h.bb, h.hD, ?_, ?_, h.xp, h.xb, h.xn, h.xs_⟩, KX.setCell w (q := ⟨g, k, none⟩) (h.hs.lt _ rfl).1 (h.xs_ ⟨g, 0, none⟩ rfl) _⟩
  · exact h.hn.setCell (p := ⟨g, k, none⟩) (fun a ha e => h.hn.apart h.hs t1 a ⟨g, 0, none⟩ ha rfl e) _
  · exact map_setCell h.hm (q := ⟨g, k, none⟩) (fun e => h.hs.offMap h.hm ⟨g, 0, none⟩ rfl e.symm) _
  · exact h.hs.storedSl (by rw [h.lenS.1]; exact hk) y
  · refine Sets.set_ (h.hx.setCell (q := ⟨g, k, none⟩) (fun r => own_not_R h.hs t5 g r rfl) _) ?_
    exact (ho.setCell (p := ⟨g, k, none⟩) (fun a ha e => ho.apart h.hs (Ne.symm t5) a ⟨g, 0, none⟩ ha rfl e) _).more hb
end
end Go.Proofs.YthlnfefpdmecaaaGreatDoor

/-
  runes.(*reader).item.
-/
namespace Go.Proofs.YthlnfefpdmecaaaGreatDoor
open Go.RowKit

/-- What item leaves. -/
def ItemEnd (b : Nat) (s : ByteArray) (r : Except (Int × Nat) ((Int × Int) × Nat)) (e : Ending) (w' : World) : Prop :=
  match r with
  | .error x => e = faultEnd x
  | .ok (x, q) => e = .returned (.agg #[.int .i32 x.1, .int .i32 x.2]) ∧ Rdr w' b s q
theorem ItemEnd.err {b : Nat} {s : ByteArray} {r : Except (Int × Nat) ((Int × Int) × Nat)} {x : Int × Nat} {w' : World} (h : r = .error x) : ItemEnd b s r (faultEnd x) w' := by rw [h]; exact rfl
theorem ItemEnd.fine {b : Nat} {s : ByteArray} {r : Except (Int × Nat) ((Int × Int) × Nat)} {x y : Int} {q : Nat} {w' : World} (h : r = .ok ((x, y), q)) (hr : Rdr w' b s q) : ItemEnd b s r (.returned (.agg #[.int .i32 x, .int .i32 y])) w' := by rw [h]; exact ⟨rfl, hr⟩
theorem Tabs.grown {w w' : World} {b a : Nat} {s : ByteArray} (h : Tabs w) (hr : Rdr w b s a) (hg : w.grownBy w' (some b)) : Tabs w' := by
  have h0 := hr.c0
  have n1 : 0 ≠ b := fun e => by subst e; have := h.1 0 (by omega); rw [h0] at this; cases this
  have n2 : 1 ≠ b := fun e => by subst e; have := (h.2 0 (by omega)).1; rw [show 2 * 0 = 0 from rfl, h0] at this; cases this
  exact ⟨fun c hc => hg.cell (h.1 c hc) (fun e => n1 (by simpa using e)), fun i hi => ⟨hg.cell (h.2 i hi).1 (fun e => n2 (by simpa using e)), hg.cell (h.2 i hi).2 (fun e => n2 (by simpa using e))⟩⟩

set_option maxRecDepth 100000 in
set_option maxHeartbeats 1000000 in
theorem item_any (s : ByteArray) (a b : Nat) (w : World) (hT : Tabs w) (hR : Rdr w b s a) (ha : a ≤ s.size) (hs : s.size ≤ 1000000) :
    Calls Tryz.prog 219 #[.pointer (some ⟨b, 0, none⟩)] w fun e w' => w.grownBy w' (some b) ∧ ItemEnd b s (itemP s a) e w' := by
  have c0 := hR.c0
  have c1 := hR.c1
  have hlt : b < w.heap.size := hR.lt
  have HR1 := Lib.hid (fun W hW hr => rune_any s a b W hW hr ha hs)
  have Hunf : Hid (itemP s a = _) := Lib.hid (show itemP s a = (match runeP s a with
    | .error e => .error e
    | .ok (lo, p) =>
      match (if (rest s p).head? = some 45 then runeP s (p + 1) else .ok (lo, p)) with
      | .error e => .error e
      | .ok (hi, q) => if hi < lo then .error (20, a) else if (rest s q).head? ≠ none ∧ (rest s q).head? ≠ some 32 then .error (21, q) else .ok ((lo, hi), q)) from rfl)
  have Hok : Hid (∀ (q : Nat) (r : Int), runeP s a = .ok (r, q) → a < q ∧ q ≤ s.size ∧ 0 ≤ r ∧ r ≤ 1114111) := Lib.hid (fun q r h => runeP_ok h)
  have Hbox : Hid (∀ W : World, Rdr W b s a → Rdr (W.alloc (.cells #[.int .i32 0, .int .i32 0] 146)) b s a) := Lib.hid (fun W h => Blk.alloc h _)
  generalize runeP s a = Q at HR1 Hunf Hok
  cases Q with
  | error x =>
    go_enter Tryz.func219, Tryz.ntmps219
    go_wp2_with fail
    refine (HR1.out _ (hT.below ((Below.refl _ _).alloc (Nat.le_refl _) _)) (Hbox.out _ hR)).mono ?_
    rintro e w2 ⟨hg, rfl⟩
    exact ⟨rfl, only_trans (only_alloc (only_refl _ _) _) hg, ItemEnd.err (x := x) Hunf.out⟩
  | ok y =>
    obtain ⟨lo, p⟩ := y
    obtain ⟨hp1, hp2, hl0, hl1⟩ := Hok.out _ _ rfl
    clear Hok
    go_enter Tryz.func219, Tryz.ntmps219
    go_wp2_with fail
    refine (HR1.out _ (hT.below ((Below.refl _ _).alloc (Nat.le_refl _) _)) (Hbox.out _ hR)).mono ?_
    rintro e w2 ⟨hg, rfl, hr2⟩
    have hne : b ≠ w.heap.size := by omega
    have hbox2 : Blk w2 w.heap.size 146 #[.int .i32 0, .int .i32 0] := (Blk.new w 146 _).grown hg (by simp; omega)
    have hg2 : w.grownBy w2 (some b) := only_trans (only_alloc (only_refl _ _) _) hg
    have hT2 : Tabs w2 := hT.grown hR hg2
    clear hg c0 c1
    have r0 : w2.cell? ⟨w.heap.size, 0, none⟩ = some (.int .i32 0) := hbox2.cell 0
    have r1 : w2.cell? ⟨w.heap.size, 1, none⟩ = some (.int .i32 0) := hbox2.cell 1
    have q0 := hbox2.frozen 0
    have q1 := hbox2.frozen 1
    have c0 := hr2.c0
    have c1 := hr2.c1
    have f1 := hr2.f1
    by_cases hdash : (rest s p).head? = some 45
    · have HI2 : Hid (itemP s a = (match runeP s (p + 1) with
        | .error e => .error e
        | .ok (hi, q) => if hi < lo then .error (20, a) else if (rest s q).head? ≠ none ∧ (rest s q).head? ≠ some 32 then .error (21, q) else .ok ((lo, hi), q))) := Lib.hid (Hunf.out.trans (by simp only [if_pos hdash]))
      have hps : p < s.size := by
        rcases Nat.lt_or_ge p s.size with h | h
        · exact h
        · rw [rest_none h] at hdash; simp at hdash
      have hdb : (((s[p]'hps).toNat : Int) == 45) = true := by
        rw [rest_head hps] at hdash; injection hdash with e; rw [e]; rfl
      have HR3 := Lib.hid (fun W hW hr => rune_any s (p + 1) b W hW hr (by omega) hs)
      have Hok2 : Hid (∀ (q : Nat) (r : Int), runeP s (p + 1) = .ok (r, q) → p + 1 < q ∧ q ≤ s.size ∧ 0 ≤ r ∧ r ≤ 1114111) := Lib.hid (fun q r h => runeP_ok h)
      clear hdash
      generalize runeP s (p + 1) = Q2 at HI2 HR3 Hok2
      cases Q2 with
      | error x =>
        go_wp2_with fail
        go_quiet (fail)
        go_wp2_with fail
        have hg3 : w.grownBy ((w2.drewN nq).setCell ⟨b, 1, none⟩ (.int .i64 ((p : Int) + 1))) (some b) := only_setCell (only_drewN hg2 _) (.inl rfl) _
        refine (HR3.out _ (hT.grown hR hg3) ((hr2.drewN _).set' _ _ (by omega))).mono ?_
        rintro e w3 ⟨hg, rfl⟩
        exact ⟨rfl, only_trans hg3 hg, ItemEnd.err (x := x) HI2.out⟩
      | ok y =>
        obtain ⟨hi, q⟩ := y
        obtain ⟨hq1, hq2, hh0, hh1⟩ := Hok2.out _ _ rfl
        clear Hok2
        have HI : Hid (itemP s a = if hi < lo then .error (20, a) else if (rest s q).head? ≠ none ∧ (rest s q).head? ≠ some 32 then .error (21, q) else .ok ((lo, hi), q)) := Lib.hid HI2.out
        clear HI2
        go_wp2_with fail
        go_quiet (fail)
        clear hdb
        go_wp2_with fail
        have hg3 : w.grownBy ((w2.drewN nq).setCell ⟨b, 1, none⟩ (.int .i64 ((p : Int) + 1))) (some b) := only_setCell (only_drewN hg2 _) (.inl rfl) _
        have hbx3 : Blk ((w2.drewN nq).setCell ⟨b, 1, none⟩ (.int .i64 ((p : Int) + 1))) w.heap.size 146 #[.int .i32 0, .int .i32 0] := Blk.far (hbox2.drewN _) (fun e => hne e.symm) _
        refine (HR3.out _ (hT.grown hR hg3) ((hr2.drewN _).set' _ _ (by omega))).mono ?_
        rintro e w3 ⟨hg, rfl, hr3⟩
        have hbx := hbx3.grown hg (fun e => hne (by simpa using e.symm))
        have hg4 := only_trans hg3 hg
        clear hg3 hg hbx3 hr2 hg2 hbox2 r0 r1 q0 q1 c0 c1 f1 hT2
        have hr2 := hr3
        have hg2 := hg4
        clear hr3 hg4
        have r0 : w3.cell? ⟨w.heap.size, 0, none⟩ = some (.int .i32 0) := hbx.cell 0
        have r1 : w3.cell? ⟨w.heap.size, 1, none⟩ = some (.int .i32 0) := hbx.cell 1
        have q0 := hbx.frozen 0
        have q1 := hbx.frozen 1
        have c0 := hr2.c0
        have c1 := hr2.c1
        by_cases hlo : hi < lo
        · have HE : Hid (itemP s a = .error (20, a)) := Lib.hid (by rw [HI.out, if_pos hlo])
          go_wp2
          exact ⟨rfl, hg2, ItemEnd.err (x := (20, a)) HE.out⟩
        · have hlo' : lo ≤ hi := by omega
          clear hlo
          by_cases hq : q < s.size
          · by_cases hb32 : s[q]'hq = 32
            · have HE : Hid (itemP s a = .ok ((lo, hi), q)) := Lib.hid (by rw [HI.out, if_neg (by omega), rest_head hq, hb32, if_neg (by simp)])
              have hqb : (((s[q]'hq).toNat : Int) != 32) = false := by rw [hb32]; rfl
              clear hb32
              go_wp2_with fail
              go_quiet (fail)
              go_wp2
              refine bodyPost_ret (v := .agg #[.int .i32 lo, .int .i32 hi]) (by simp [results, Tryz.results219, go_sem, r0, r1]) rfl ⟨only_setCell (only_setCell (only_drewN hg2 _) (.inr (Nat.le_refl _)) _) (.inr (Nat.le_refl _)) _, ItemEnd.fine HE.out ?_⟩
              exact Blk.far (Blk.far (hr2.drewN _) hne _) hne _
            · have HE : Hid (itemP s a = .error (21, q)) := Lib.hid (by rw [HI.out, if_neg (by omega), rest_head hq, if_pos ⟨by simp, by simpa using hb32⟩])
              have hqb : (((s[q]'hq).toNat : Int) != 32) = true := byte_ne hb32
              clear hb32
              go_wp2_with fail
              go_quiet (fail)
              go_wp2
              exact ⟨rfl, only_drewN hg2 _, ItemEnd.err (x := (21, q)) HE.out⟩
          · have HE : Hid (itemP s a = .ok ((lo, hi), q)) := Lib.hid (by rw [HI.out, if_neg (by omega), rest_none (by omega), if_neg (by simp)])
            have hd : decide (q < s.size) = false := decide_eq_false hq
            clear hq
            go_wp2_with fail
            go_quiet (fail)
            go_wp2
            refine bodyPost_ret (v := .agg #[.int .i32 lo, .int .i32 hi]) (by simp [results, Tryz.results219, go_sem, r0, r1]) rfl ⟨only_setCell (only_setCell (only_drewN hg2 _) (.inr (Nat.le_refl _)) _) (.inr (Nat.le_refl _)) _, ItemEnd.fine HE.out ?_⟩
            exact Blk.far (Blk.far (hr2.drewN _) hne _) hne _
    · have HI : Hid (itemP s a = if lo < lo then .error (20, a) else if (rest s p).head? ≠ none ∧ (rest s p).head? ≠ some 32 then .error (21, p) else .ok ((lo, lo), p)) := Lib.hid (Hunf.out.trans (by simp only [if_neg hdash]))
      by_cases hps : p < s.size
      · have hdb : (((s[p]'hps).toNat : Int) == 45) = false := by rw [beq_eq_false_iff_ne, ← bne_iff_ne]; exact byte_ne (fun e => hdash (by rw [rest_head hps, e]; rfl))
        clear hdash
        go_wp2_with fail
        go_quiet (fail)
        clear hdb
        have hg9 := only_drewN hg2 nq
        have hr9 := hr2.drewN nq
        by_cases hb32 : s[p]'hps = 32
        · have HE : Hid (itemP s a = .ok ((lo, lo), p)) := Lib.hid (by rw [HI.out, if_neg (by omega), rest_head hps, hb32, if_neg (by simp)])
          have hpsb : (((s[p]'hps).toNat : Int) != 32) = false := by rw [hb32]; rfl
          clear hb32
          go_wp2_with fail
          go_quiet (fail)
          go_wp2
          refine bodyPost_ret (v := .agg #[.int .i32 lo, .int .i32 lo]) (by simp [results, Tryz.results219, go_sem, r0, r1]) rfl ⟨only_setCell (only_setCell (only_drewN hg2 _) (.inr (Nat.le_refl _)) _) (.inr (Nat.le_refl _)) _, ItemEnd.fine HE.out ?_⟩
          exact Blk.far (Blk.far (hr2.drewN _) hne _) hne _
        · have HE : Hid (itemP s a = .error (21, p)) := Lib.hid (by rw [HI.out, if_neg (by omega), rest_head hps, if_pos ⟨by simp, by simpa using hb32⟩])
          have hpsb : (((s[p]'hps).toNat : Int) != 32) = true := byte_ne hb32
          clear hb32
          go_wp2_with fail
          go_quiet (fail)
          go_wp2
          exact ⟨rfl, only_drewN hg2 _, ItemEnd.err (x := (21, p)) HE.out⟩
      · have hd : decide (p < s.size) = false := decide_eq_false hps
        have HE : Hid (itemP s a = .ok ((lo, lo), p)) := Lib.hid (by rw [HI.out, if_neg (by omega), rest_none (by omega), if_neg (by simp)])
        clear hdash hps
        go_wp2_with fail
        go_quiet (fail)
        go_wp2_with fail
        go_quiet (fail)
        go_wp2
        refine bodyPost_ret (v := .agg #[.int .i32 lo, .int .i32 lo]) (by simp [results, Tryz.results219, go_sem, r0, r1]) rfl ⟨only_setCell (only_setCell (only_drewN hg2 _) (.inr (Nat.le_refl _)) _) (.inr (Nat.le_refl _)) _, ItemEnd.fine HE.out ?_⟩
        exact Blk.far (Blk.far (hr2.drewN _) hne _) hne _
end Go.Proofs.YthlnfefpdmecaaaGreatDoor

/-
  kerfref02.Is, Has, Or, Not, And, Minus.
-/
namespace Go.Proofs.YthlnfefpdmecaaaGreatDoor
open Go.RowKit

set_option maxHeartbeats 400000 in
theorem sHas_any (A : Option Addr) (n c : Nat) (l : List (Int × Int)) (r : Int) (w : World) (hA : Rd w 2 A (l.map encR)) (hl : l.length = n) (hn : n ≤ 4000000) :
    Calls Tryz.prog 109 #[.slice A n c, .int .i32 r] w fun e w' => e = .returned (.bool (hasB l r)) ∧ w = w' := by
  have Hl := Lib.hid hl
  clear hl
  by_cases h0 : 0 ≤ r ∧ r ≤ 1114111
  · obtain ⟨h0, h1⟩ := h0
    go_enter Tryz.func109, Tryz.ntmps109
    go_wp2
    go_loop [5] (fun i => ∃ k : Nat, k ≤ n ∧ i = .int .i64 k ∧ Hid (∀ x ∈ l.take k, ¬ (x.1 ≤ r ∧ r ≤ x.2))) (fun i => n - (intOf i).toNat)
    case atStart => exact ⟨0, by omega, rfl, by simp [Hid]⟩
    case round =>
      obtain ⟨k, hk, rfl, HE⟩ := hrel
      by_cases hlt : k < n
      · obtain ⟨b, off, lo, hi, rfl, Hx, hx1, hx2⟩ := hA.atR (k := k) (by have := Hl.out; omega)
        by_cases hlo : lo ≤ r <;> by_cases hhi : r ≤ hi
        · have HT : Hid (hasB l r = true) := hasB_true ⟨h0, h1, (lo, hi), List.mem_of_getElem? Hx.out, hlo, hhi⟩
          go_wp2
          go_ret
          exact ⟨ret_bool HT.out.symm, rfl⟩
        all_goals
          have HE' : Hid (∀ x ∈ l.take (k + 1), ¬ (x.1 ≤ r ∧ r ≤ x.2)) := Lib.hid (fun x hx => by
            rw [List.take_add_one, Hx.out] at hx
            rcases List.mem_append.1 hx with hx | hx
            · exact HE.out x hx
            · simp at hx; subst hx; simp only; omega)
          go_wp2
          go_round
          case rel => exact ⟨k + 1, by omega, by go_num, HE'⟩
          case measure => simp [intOf]; omega
      · have HF : Hid (hasB l r = false) := hasB_false (fun ⟨_, _, x, hx, h⟩ => HE.out x (by rw [List.take_of_length_le (by have := Hl.out; omega)]; exact hx) h)
        go_wp2
        go_ret
        exact ⟨ret_bool HF.out.symm, rfl⟩
  · have HF : Hid (hasB l r = false) := hasB_false (fun h => h0 ⟨h.1, h.2.1⟩)
    by_cases h1 : 0 ≤ r
    all_goals
      go_enter Tryz.func109, Tryz.ntmps109
      go_wp2
      go_loop [5] (fun i => ∃ k : Nat, k ≤ n ∧ i = .int .i64 k) (fun i => n - (intOf i).toNat)
      case atStart => exact ⟨0, by omega, rfl⟩
      case round =>
        obtain ⟨k, hk, rfl⟩ := hrel
        by_cases hlt : k < n
        · have h2 : ¬ r ≤ 1114111 ∨ ¬ 0 ≤ r := by omega
          first
            | (have h3 : 1114111 < r := by omega
               clear h2 h0
               go_wp2
               go_round
               case rel => exact ⟨k + 1, by omega, by go_num⟩
               case measure => simp [intOf]; omega)
            | (have h3 : r < 0 := by omega
               clear h2 h0
               go_wp2
               go_round
               case rel => exact ⟨k + 1, by omega, by go_num⟩
               case measure => simp [intOf]; omega)
        · clear h0
          go_wp2
          go_ret
          exact ⟨ret_bool HF.out.symm, rfl⟩

set_option maxHeartbeats 400000 in
theorem sOr_any (A A2 : Option Addr) (n c n2 c2 : Nat) (a b : List (Int × Int)) (w : World) (hA : Rd w 2 A (a.map encR)) (hB : Rd w 2 A2 (b.map encR)) (ha : a.length = n) (hb : b.length = n2) (hn : n + n2 ≤ 4000000) :
    Calls Tryz.prog 155 #[.slice A n c, .slice A2 n2 c2] w fun e w' => ∃ A' n' c', e = .returned (.slice A' n' c') ∧ Own w' w.heap.size 146 2 A' n' c' ((orR a b).map encR) ∧ Below w.heap.size w w' := by
  obtain ⟨i0, hi0, hz0, hz1, hz2⟩ := info_parts infoR
  have Ha := Lib.hid ha
  have Hb := Lib.hid hb
  clear ha hb
  go_enter Tryz.func155, Tryz.ntmps155
  go_wp2_with (first
    | (at_builtin; refine wpList_app rfl (.tmp 5) (.tmp 6) _ rfl w.heap.size 146 i0 _ 2 8 Tryz.underlying111 hi0 hz0 hz1 hz2 rfl (by omega) (some ⟨w.heap.size, 0, none⟩) 0 0 [] rfl (Own.lit w _ _ _ (Nat.le_refl _)) A n c (a.map encR) rfl (by simpa using Ha.out) (hA.alloc _) (encR_ok a) (by unfold maxLen; omega) (by omega) (by simp) ?_; intro A3 c3 w3 ho3' hg3 _; have ho3 : Own w3 w.heap.size 146 2 A3 n c3 (a.map encR) := (by simpa using ho3'); clear ho3'; have hb3 := below_app ((Below.refl _ w).alloc (Nat.le_refl _) (.cells #[] 146)) hg3 (by simp) (fun a ha => by cases ha; exact Nat.le_refl _); clear hg3)
    | (at_builtin; refine wpList_app rfl (.tmp 7) (.tmp 8) _ rfl w.heap.size 146 i0 _ 2 8 Tryz.underlying111 hi0 hz0 hz1 hz2 rfl (by omega) A3 n c3 (a.map encR) rfl ho3 A2 n2 c2 (b.map encR) rfl (by simpa using Hb.out) (hB.below hb3) (encR_ok b) (by unfold maxLen; omega) (by omega) hb3.size ?_; intro A4 c4 w4 ho4 hg4 _; have hb4 := below_app hb3 hg4 hb3.size (fun a ha => (ho3.lt a ha).1); clear hg4)
    | (go_at_call 191; refine (sNorm_any A4 (n + n2) c4 (a ++ b) _ (by simpa using ho4.rd (by omega)) (by simp; have := Ha.out; have := Hb.out; omega) (by omega)).mono ?_; rintro e w5 ⟨A5, n5, c5, rfl, ho5, hb5⟩))
  go_ret
  exact ⟨_, _, _, rfl, ho5.more hb4.size, below_step hb4 hb5 hb4.size⟩
end Go.Proofs.YthlnfefpdmecaaaGreatDoor

/-
  kerfref02.Not, And, Minus.
-/
namespace Go.Proofs.YthlnfefpdmecaaaGreatDoor
open Go.RowKit

theorem own_nf_len {w : World} {base : Nat} {e : TypeId} {A : Option Addr} {n c : Nat} {l : List (Int × Int)} (h : Own w base e 2 A n c (l.map encR)) (hl : NF l) : n ≤ 557056 := by
  have := h.len; simp at this; have := hl.len; omega

set_option maxHeartbeats 400000 in
theorem sNot_any (A : Option Addr) (n c : Nat) (l : List (Int × Int)) (w : World) (hA : Rd w 2 A (l.map encR)) (hl : l.length = n) (hn : n ≤ 4000000) :
    Calls Tryz.prog 156 #[.slice A n c] w fun e w' => ∃ A' n' c', e = .returned (.slice A' n' c') ∧ Own w' w.heap.size 146 2 A' n' c' ((notR l).map encR) ∧ Below w.heap.size w w' := by
  obtain ⟨i0, hi0, hz0, hz1, hz2⟩ := info_parts infoR
  have Hl := Lib.hid hl
  clear hl
  have HNF := Lib.hid (normR_NF l)
  go_enter Tryz.func156, Tryz.ntmps156
  go_wp2_with (go_at_call 191; go_must (refine (sNorm_any A n c l _ hA Hl.out hn).mono ?_); rintro e w1 ⟨A1, n1, c1, rfl, ho1, hb1⟩)
  have hn1 := own_nf_len ho1 HNF.out
  have hrd := ho1.rd (by omega)
  have Hn1 : Hid ((normR l).length = n1) := Lib.hid (by simpa using ho1.len)
  have hbs1 := hb1.size
  clear ho1
  go_loopw [4, 5, 6] (fun v x i wr => ∃ (k : Nat) (A2 : Option Addr) (n2 c2 : Nat) (o : List (Int × Int)) (next : Int), k ≤ n1 ∧ n2 ≤ k ∧ v = .slice A2 n2 c2 ∧ x = .int .i32 next ∧ i = .int .i64 k ∧ 0 ≤ next ∧ next ≤ 1114112 ∧
      Own wr w1.heap.size 146 2 A2 n2 c2 (o.map encR) ∧ Hid (o ++ notGo next ((normR l).drop k) = notR l) ∧ Below w1.heap.size w1 wr) (fun _ _ i _ => n1 - (intOf i).toNat)
  case atStart => exact ⟨0, none, 0, 0, [], 0, by omega, by omega, rfl, rfl, rfl, by omega, by omega, Own.nil_ _ _ _ _, rfl, Below.refl _ _⟩
  case round =>
    obtain ⟨k, A2, n2, c2, o, next, hk, hn2, rfl, rfl, rfl, hx0, hx1, ho, HO, hb⟩ := hrel
    have hbs := hb.size
    by_cases hlt : k < n1
    · obtain ⟨b, off, lo, hi, rfl, Hx, hc1, hc2⟩ := hrd.atR (k := k) (by have := Hn1.out; omega)
      have hr1 := cell_keep hc1 hb
      have hr2 := cell_keep hc2 hb
      obtain ⟨hb0, hb1', hb2⟩ : 0 ≤ lo ∧ lo ≤ hi ∧ hi ≤ 1114111 := by
        have hm := List.mem_of_getElem? Hx.out
        have := HNF.out.2 _ hm; have := Nf_le HNF.out.1 _ hm; simp only at *; omega
      have HD := Lib.hid (drop_cons_of Hx.out)
      by_cases hc : next < lo
      · go_wp2_with (at_builtin; go_must (refine wpList_app rfl (.tmp 22) (.tmp 31) _ rfl w1.heap.size 146 i0 _ 2 8 Tryz.underlying111 hi0 hz0 hz1 hz2 rfl (by omega) A2 n2 c2 (o.map encR) rfl (ho.alloc _) _ 1 1 [encR (next, lo - 1)] rfl rfl (Rd.newAt (by simp) rfl) (encR_ok [(next, lo - 1)]) (by unfold maxLen; omega) (by omega) (by simp; omega) ?_); intro A3 c3 w3 ho3 hg3 hA3; have hb3 := below_app (hb.alloc hbs (.cells #[.int .i32 next, .int .i32 (lo - 1)] 146)) hg3 (by simp; omega) (fun a ha => (ho.lt a ha).1); clear hg3; have h3 := cell_keep hc2 hb3)
        have Ho3 : Own w3 w1.heap.size 146 2 A3 (n2 + 1) c3 ((o ++ [(next, lo - 1)]).map encR) := by rw [List.map_append]; exact ho3
        clear ho3
        go_roundw
        case rel => exact ⟨k + 1, A3, n2 + 1, c3, o ++ [(next, lo - 1)], hi + 1, by omega, by omega, rfl, rfl, by go_num, by omega, by omega, Ho3, Lib.hid (by rw [← HO.out, HD.out, notGo_cons, if_pos hc, List.append_assoc]), hb3⟩
        case measure => simp [intOf]; omega
      · have hge : lo ≤ next := by omega
        go_wp2
        go_roundw
        case rel => exact ⟨k + 1, A2, n2, c2, o, hi + 1, by omega, by omega, rfl, rfl, by go_num, by omega, by omega, ho, Lib.hid (by rw [← HO.out, HD.out, notGo_cons, if_neg hc, List.nil_append]), hb⟩
        case measure => simp [intOf]; omega
    · have Hdr : Hid ((normR l).drop k = []) := Lib.hid (List.drop_of_length_le (by have := Hn1.out; omega))
      by_cases hc : next ≤ 1114111
      · go_wp2_with (at_builtin; go_must (refine wpList_app rfl (.tmp 41) (.tmp 44) _ rfl w1.heap.size 146 i0 _ 2 8 Tryz.underlying111 hi0 hz0 hz1 hz2 rfl (by omega) A2 n2 c2 (o.map encR) rfl (ho.alloc _) _ 1 1 [encR (next, 1114111)] rfl rfl (Rd.newAt (by simp) rfl) (encR_ok [(next, 1114111)]) (by unfold maxLen; omega) (by omega) (by simp; omega) ?_); intro A3 c3 w3 ho3 hg3 hA3; have hb3 := below_app (hb.alloc hbs (.cells #[.int .i32 next, .int .i32 1114111] 146)) hg3 (by simp; omega) (fun a ha => (ho.lt a ha).1); clear hg3)
        have Ho3 : Own w3 w1.heap.size 146 2 A3 (n2 + 1) c3 ((o ++ [(next, 1114111)]).map encR) := by rw [List.map_append]; exact ho3
        clear ho3
        go_ret
        exact ⟨_, _, _, rfl, by have := HO.out; rw [Hdr.out, notGo_nil, if_pos hc] at this; rw [← this]; exact Ho3.more hbs1, below_step hb1 hb3 hbs1⟩
      · have hgt : 1114111 < next := by omega
        have HE : Hid (o = notR l) := Lib.hid (by have := HO.out; rw [Hdr.out, notGo_nil, if_neg hc, List.append_nil] at this; exact this)
        obtain rfl : next = 1114112 := by omega
        clear hc hx1 hx0 hgt
        go_wp2
        go_ret
        exact ⟨_, _, _, rfl, by rw [← HE.out]; exact ho.more hbs1, below_step hb1 hb hbs1⟩

end Go.Proofs.YthlnfefpdmecaaaGreatDoor

/-
  PLAIN: a text's runes with their places; what is kept of it, trimmed; the runs. No walk.
-/
namespace Go.Proofs.YthlnfefpdmecaaaGreatDoor

/-- A text's runes from a place on: the rune, its place, the place behind it. -/
def runesGo (s : ByteArray) : Nat → Nat → List (Nat × Nat × Nat)
  | 0, _ => []
  | f + 1, a => if a < s.size then ((Utf8.decode s a).1, a, a + (Utf8.decode s a).2) :: runesGo s f (a + (Utf8.decode s a).2) else []
def runesP (s : ByteArray) : List (Nat × Nat × Nat) := runesGo s s.size 0
theorem runesGo_end {s : ByteArray} {f a : Nat} (h : s.size ≤ a) : runesGo s f a = [] := by
  cases f with
  | zero => rfl
  | succ f => rw [runesGo, if_neg (by omega)]
theorem runesGo_step {s : ByteArray} {f a : Nat} (h : a < s.size) (hf : s.size ≤ a + f) : ∃ g, f = g + 1 ∧ runesGo s f a = ((Utf8.decode s a).1, a, a + (Utf8.decode s a).2) :: runesGo s g (a + (Utf8.decode s a).2) := by
  obtain ⟨g, rfl⟩ : ∃ g, f = g + 1 := ⟨f - 1, by omega⟩
  exact ⟨g, rfl, by rw [runesGo, if_pos h]⟩
theorem runesGo_bd {s : ByteArray} : ∀ (f a : Nat), ∀ x ∈ runesGo s f a, a ≤ x.2.1 ∧ x.2.1 < x.2.2 ∧ x.2.2 ≤ s.size ∧ x.2.2 ≤ x.2.1 + 4 ∧ x.1 ≤ 1114111
  | 0, a, x, h => by simp [runesGo] at h
  | f + 1, a, x, h => by
    rw [runesGo] at h
    split at h
    · rename_i hlt
      have hd := dec_bd s a hlt
      rcases List.mem_cons.1 h with rfl | h
      · simp only; omega
      · have := runesGo_bd f _ x h; omega
    · simp at h
theorem runesP_bd {s : ByteArray} : ∀ x ∈ runesP s, x.2.1 < x.2.2 ∧ x.2.2 ≤ s.size ∧ x.2.2 ≤ x.2.1 + 4 ∧ x.1 ≤ 1114111 := fun x h => (runesGo_bd _ _ x h).2
theorem runesGo_len {s : ByteArray} : ∀ (f a : Nat), a + (runesGo s f a).length ≤ max a s.size
  | 0, a => by simp [runesGo]; omega
  | f + 1, a => by
    rw [runesGo]
    split
    · rename_i hlt
      have hd := dec_bd s a hlt
      have := runesGo_len (s := s) f (a + (Utf8.decode s a).2)
      simp only [List.length_cons]; omega
    · simp; omega
theorem runesP_len (s : ByteArray) : (runesP s).length ≤ s.size := by have := runesGo_len (s := s) s.size 0; unfold runesP; omega

/-- The first rune of a text. -/
def firstP (s : ByteArray) : Nat × Nat := match runesP s with
  | [] => (0, 0)
  | x :: _ => (x.1, x.2.2)
theorem firstP_eq (s : ByteArray) : firstP s = if 0 < s.size then Utf8.decode s 0 else (0, 0) := by
  unfold firstP runesP
  split
  · rename_i h
    by_cases h0 : 0 < s.size
    · obtain ⟨g, _, hg⟩ := runesGo_step (s := s) (f := s.size) (a := 0) h0 (by omega)
      rw [hg] at h; simp at h
    · rw [if_neg h0]
  · rename_i x r h
    by_cases h0 : 0 < s.size
    · obtain ⟨g, _, hg⟩ := runesGo_step (s := s) (f := s.size) (a := 0) h0 (by omega)
      rw [hg] at h; injection h with h _; subst h
      simp [h0]
    · rw [runesGo_end (by omega)] at h; simp at h

/-- The runes of a text that a set holds: their spans. -/
def keepP (s : ByteArray) (l : List (Int × Int)) : List UInt8 := ((runesP s).filter fun x => hasB l x.1).flatMap fun x => (s.extract x.2.1 x.2.2).data.toList
/-- Where runes of a set stand one behind the other: 'cur': the place where a run began. -/
def runsGo (h : Int → Bool) (z : Nat) : Option Nat → List (Nat × Nat × Nat) → List (Nat × Nat)
  | none, [] => []
  | some a, [] => [(a, z)]
  | none, x :: r => if h x.1 then runsGo h z (some x.2.1) r else runsGo h z none r
  | some a, x :: r => if h x.1 then runsGo h z (some a) r else (a, x.2.1) :: runsGo h z none r
def runsP (s : ByteArray) (l : List (Int × Int)) : List (Nat × Nat) := runsGo (hasB l) s.size none (runesP s)
def trimP (s : ByteArray) (l : List (Int × Int)) : Nat × Nat :=
  ((((runesP s).filter fun x => !hasB l x.1).head?.map (·.2.1)).getD s.size, (((runesP s).filter fun x => !hasB l x.1).getLast?.map (·.2.2)).getD s.size)
def ofP (s : ByteArray) : List (Int × Int) := normR ((runesP s).map fun x => ((x.1 : Int), (x.1 : Int)))
end Go.Proofs.YthlnfefpdmecaaaGreatDoor

/-
  kerfref02.Count, At, Index.
-/
namespace Go.Proofs.YthlnfefpdmecaaaGreatDoor
open Go.RowKit

theorem ret_at {a b : Int} {c d : Bool} (h : (a, c) = (b, d)) (k : IntKind) : Ending.returned (.tuple #[.int k a, .bool c]) = .returned (.tuple #[.int k b, .bool d]) := by cases h; rfl

end Go.Proofs.YthlnfefpdmecaaaGreatDoor

/-
  kerfref02.Runes, First.
-/
namespace Go.Proofs.YthlnfefpdmecaaaGreatDoor
open Go.RowKit

def encRn (x : Nat × Nat × Nat) : List Value := [.int .i32 x.1, .int .i64 x.2.1, .int .i64 x.2.2]
theorem encRn_ok (l : List (Nat × Nat × Nat)) : ∀ y ∈ l.map encRn, y.length = 3 ∧ ∀ u ∈ y, u.oneCell' = true := by
  intro y hy; obtain ⟨r, _, rfl⟩ := List.mem_map.1 hy
  exact ⟨rfl, by simp [encRn, Value.oneCell']⟩
theorem infoRR : (Tryz.prog.info? 34).map (fun i => (i.zero, i.size, i.bytes)) = some (some (.agg #[.int .i32 0, .int .i64 0, .int .i64 0]), 3, 24) := by kernel_rfl
theorem Own.iterAt {w : World} {base : Nat} {e : TypeId} {s : Nat} {A : Option Addr} {n c : Nat} {cs : List (List Value)} (h : Own w base e s A n c cs) {k : Nat} (hk : k < base) (t : ByteArray) (p : Nat) : Own (w.iterAt k t p) base e s A n c cs :=
  h.keep fun a ha => Lib.iterAt_other w k a.block t p (by have := (h.lt a ha).1; omega)
theorem iter_new (w : World) (s : ByteArray) (p : Nat) : (w.iter s p).heap[w.heap.size]? = some (.stringIter s p) := World.iter_heap w s p
theorem below_iter {B : Nat} {a w : World} (h : Below B a w) (hB : B ≤ w.heap.size) (s : ByteArray) (p : Nat) : Below B a (w.iter s p) := h.alloc hB _
theorem iterPos_of {w : World} {k p : Nat} {s : ByteArray} (h : w.heap[k]? = some (.stringIter s p)) : w.iterPos k = p := by unfold World.iterPos; rw [h]

/-- How far Runes has come. -/
def RunesAt (s : ByteArray) (p f : Nat) (o : List (Nat × Nat × Nat)) : Prop :=
  (o = [] ∧ p = 0 ∧ runesGo s f 0 = runesP s) ∨ ∃ o' r a, o = o' ++ [(r, a, s.size)] ∧ o' ++ (r, a, p) :: runesGo s f p = runesP s
theorem runesAt_first {s : ByteArray} {f : Nat} (h : runesGo s (f + 1) 0 = runesP s) (h0 : 0 < s.size) {R W : Nat} (hd : Utf8.decode s 0 = (R, W)) : RunesAt s (0 + W) f ([] ++ [(R, 0, s.size)]) := by
  refine .inr ⟨[], R, 0, rfl, ?_⟩
  rw [← h, runesGo, if_pos h0, hd]; rfl
theorem runesAt_next {s : ByteArray} {f p r a : Nat} {o' : List (Nat × Nat × Nat)} (h : o' ++ (r, a, p) :: runesGo s (f + 1) p = runesP s) (hp : p < s.size) {R W : Nat} (hd : Utf8.decode s p = (R, W)) :
    RunesAt s (p + W) f (o' ++ [(r, a, p)] ++ [(R, p, s.size)]) := by
  refine .inr ⟨o' ++ [(r, a, p)], R, p, rfl, ?_⟩
  rw [← h, runesGo, if_pos hp, hd]; simp
theorem runesAt_end {s : ByteArray} {f p : Nat} {o : List (Nat × Nat × Nat)} (h : RunesAt s p f o) (hp : p = s.size) : o = runesP s := by
  subst hp
  rcases h with ⟨rfl, h0, h⟩ | ⟨o', r, a, rfl, h⟩
  · rw [← h, runesGo_end (by omega)]
  · rw [← h, runesGo_end (Nat.le_refl _)]

set_option maxRecDepth 100000 in
set_option maxHeartbeats 800000 in
theorem sRunes_any (s : ByteArray) (w : World) (hs : s.size ≤ 1000000) :
    Calls Tryz.prog 20 #[.string s] w fun e w' => ∃ A n c, e = .returned (.slice A n c) ∧ Own w' w.heap.size 34 3 A n c ((runesP s).map encRn) ∧ Below w.heap.size w w' := by
  obtain ⟨i0, hi0, hz0, hz1, hz2⟩ := info_parts infoRR
  go_enter Tryz.func20, Tryz.ntmps20
  go_wp2
  go_loopw [3] (fun v wr => ∃ (p f : Nat) (A1 : Option Addr) (n1 c1 : Nat) (o : List (Nat × Nat × Nat)), v = .slice A1 n1 c1 ∧ wr.heap[w.heap.size]? = some (.stringIter s p) ∧ Own wr (w.heap.size + 1) 34 3 A1 n1 c1 (o.map encRn) ∧
      n1 ≤ p ∧ p ≤ s.size ∧ s.size ≤ p + f ∧ Hid (RunesAt s p f o) ∧ Below w.heap.size w wr) (fun _ wr => s.size - wr.iterPos w.heap.size)
  case atStart => exact ⟨0, s.size, none, 0, 0, [], rfl, iter_new _ _ _, Own.nil_ _ _ _ _, by omega, by omega, by omega, .inl ⟨rfl, rfl, rfl⟩, below_iter (Below.refl _ _) (Nat.le_refl _) _ _⟩
  case round =>
    obtain ⟨p, f, A1, n1, c1, o, rfl, hit, ho, hn1, hps, hf, HR, hb⟩ := hrel
    have hsz : w.heap.size < wr.heap.size := (Array.getElem?_eq_some_iff.1 hit).1
    have Hpos := Lib.hid (iterPos_of hit)
    by_cases hp : p < s.size
    · obtain ⟨⟨R, W⟩, HD⟩ : ∃ d, Utf8.decode s p = d := ⟨_, rfl⟩
      have hd := dec_bd s p hp
      have hnx : ∀ ty, (Instr.next (.pointer (some ⟨w.heap.size, 0, none⟩)) true ty).run Tryz.prog wr = _ := fun ty => Lib.run_next_any_at wr w.heap.size s p ty hit hp
      have hit2 := Lib.iterAt_heap wr w.heap.size s p (p + (Utf8.decode s p).2) hit
      have hb2 := Lib.below_iterAt hb (k := w.heap.size) (Nat.le_refl _) s (p + (Utf8.decode s p).2)
      have ho2 := ho.iterAt (k := w.heap.size) (by omega) s (p + (Utf8.decode s p).2)
      have hsz2 : w.heap.size < (wr.iterAt w.heap.size s (p + (Utf8.decode s p).2)).heap.size := by rw [Lib.iterAt_size]; exact hsz
      rw [HD] at hd hnx hit2 hb2 ho2 hsz2
      simp only at hd hnx hit2 hb2 ho2 hsz2
      have HD := Lib.hid HD
      obtain ⟨f, rfl⟩ : ∃ f', f = f' + 1 := ⟨f - 1, by omega⟩
      generalize wr.iterAt w.heap.size s (p + W) = w2 at hnx hit2 hb2 ho2 hsz2
      clear ho hb hit hsz
      rcases HR.out with ⟨rfl, rfl, hrun⟩ | ⟨o', r, a, rfl, hrun⟩
      · have HA := Lib.hid (runesAt_first hrun hp HD.out)
        obtain rfl : n1 = 0 := by omega
        clear hrun HR
        go_wp2_with (at_builtin; go_must (refine wpList_app rfl (.tmp 22) (.tmp 28) _ rfl (w.heap.size + 1) 34 i0 _ 3 24 Tryz.underlying30 hi0 hz0 hz1 hz2 rfl (by omega) A1 0 c1 ([].map encRn) rfl (ho2.alloc _) _ 1 1 [encRn (R, 0, s.size)] rfl rfl (Rd.newAt (by simp) rfl) (encRn_ok [(R, 0, s.size)]) (by unfold maxLen; omega) (by omega) (by simp; omega) ?_); intro A3 c3 w3 ho3 hg3 hA3; have hit3 := hg3.block w.heap.size (by simp; omega) (fun e => by cases A1 with | none => simp at e | some a => have := (ho2.lt a rfl).1; simp at e; omega); have hb3 := below_app (hb2.alloc (by omega) _) hg3 (by simp; omega) (fun a ha => by have := (ho2.lt a ha).1; omega); clear hg3)
        have hit4 : w3.heap[w.heap.size]? = some (.stringIter s (0 + W)) := hit3.trans ((Below.heap_alloc _ _ _ hsz2).trans hit2)
        have Ho3 : Own w3 (w.heap.size + 1) 34 3 A3 1 c3 (([] ++ [(R, 0, s.size)]).map encRn) := by rw [List.map_append]; exact ho3
        clear hit3 ho3
        go_roundw
        case rel => exact ⟨0 + W, f, A3, 1, c3, [] ++ [(R, 0, s.size)], rfl, hit4, Ho3, by omega, by omega, by omega, HA, hb3⟩
        case measure => rw [iterPos_of hit4, Hpos.out]; omega
      · have HA := Lib.hid (runesAt_next hrun hp HD.out)
        obtain ⟨j, rfl⟩ : ∃ j, n1 = j + 1 := ⟨n1 - 1, by have := ho2.len; simp at this; omega⟩
        obtain ⟨g, rfl, hgB, hgl⟩ := ho2.form (by omega)
        have Hj : Hid (o'.length = j) := Lib.hid (by have := ho2.len; simpa using this)
        have hx : ((o' ++ [(r, a, s.size)]).map encRn)[j]? = some (encRn (r, a, s.size)) := by have := Hj.out; subst this; simp
        have hc := ho2.cell (k := j) (j := 2) (u := .int .i64 s.size) hx rfl
        have hfz := ho2.frozen (j * 3 + 2)
        have ho4 := ho2.stored (k := j) (j := 2) hx (by omega) (.int .i64 p)
        have he : ((o' ++ [(r, a, s.size)]).map encRn).set j ((encRn (r, a, s.size)).set 2 (.int .i64 p)) = (o' ++ [(r, a, p)]).map encRn := by
          rw [List.map_append, List.map_append]
          have := set_mid (o'.map encRn) (encRn (r, a, s.size)) ((encRn (r, a, s.size)).set 2 (.int .i64 p)) []
          rw [List.length_map, Hj.out] at this
          exact this
        rw [he] at ho4
        have hb4 := hb2.setCell (p := ⟨g, j * 3 + 2, none⟩) (by simp only; omega) (.int .i64 p)
        have hit4 : (w2.setCell ⟨g, j * 3 + 2, none⟩ (.int .i64 p)).heap[w.heap.size]? = some (.stringIter s (p + W)) := (Below.heap_setCell w2 ⟨g, j * 3 + 2, none⟩ _ w.heap.size (by simp only; omega)).trans hit2
        have hw1 : IntKind.i64.wrap (j : Int) = j := IntWalk.i64_in _ (by omega)
        clear hrun HR hx he hit2 hb2
        go_wp2_with (at_builtin; go_must (refine wpList_app rfl (.tmp 22) (.tmp 28) _ rfl (w.heap.size + 1) 34 i0 _ 3 24 Tryz.underlying30 hi0 hz0 hz1 hz2 rfl (by omega) (some ⟨g, 0, none⟩) (j + 1) c1 ((o' ++ [(r, a, p)]).map encRn) rfl (ho4.alloc _) _ 1 1 [encRn (R, p, s.size)] rfl rfl (Rd.newAt (by simp) rfl) (encRn_ok [(R, p, s.size)]) (by unfold maxLen; omega) (by omega) (by simp; omega) ?_); intro A3 c3 w3 ho3 hg3 hA3; have hit3 := hg3.block w.heap.size (by simp; omega) (fun e => by simp at e; omega); have hb3 := below_app (hb4.alloc (by simp; omega) _) hg3 (by simp; omega) (fun a ha => by cases ha; simp only; omega); clear hg3)
        have hit5 : w3.heap[w.heap.size]? = some (.stringIter s (p + W)) := hit3.trans ((Below.heap_alloc _ _ _ (by simpa using hsz2)).trans hit4)
        have Ho3 : Own w3 (w.heap.size + 1) 34 3 A3 (j + 1 + 1) c3 ((o' ++ [(r, a, p)] ++ [(R, p, s.size)]).map encRn) := by rw [List.map_append]; exact ho3
        clear hit3 ho3
        go_roundw
        case rel => exact ⟨p + W, f, A3, j + 1 + 1, c3, o' ++ [(r, a, p)] ++ [(R, p, s.size)], rfl, hit5, Ho3, by omega, by omega, by omega, HA, hb3⟩
        case measure => rw [iterPos_of hit5, Hpos.out]; omega
    · have hnx : ∀ ty, (Instr.next (.pointer (some ⟨w.heap.size, 0, none⟩)) true ty).run Tryz.prog wr = _ := fun ty => Lib.run_next_end_at wr w.heap.size s p ty hit hp
      have HE := Lib.hid (runesAt_end HR.out (by omega))
      go_wp2
      go_ret
      exact ⟨_, _, _, rfl, by rw [← HE.out]; exact ho.more (by omega), hb⟩
end Go.Proofs.YthlnfefpdmecaaaGreatDoor

/-
  PLAIN: the library's words on parting and replacing, said of lines and tabs. No walk.
-/
namespace Go.Proofs.YthlnfefpdmecaaaGreatDoor

theorem indexByte_at {c : UInt8} (r : List UInt8) : ∀ (a : List UInt8), c ∉ a → Lib.indexByte (a ++ c :: r) c = a.length
  | [], _ => by rw [List.nil_append, Lib.indexByte, if_pos (by simp)]; rfl
  | b :: a, h => by
    have ih := indexByte_at r a (fun hm => h (List.mem_cons_of_mem _ hm))
    have hb : ¬ (b == c) = true := fun e => h (by rw [beq_iff_eq.1 e]; exact List.mem_cons_self)
    rw [List.cons_append, Lib.indexByte, ih, if_neg hb, if_neg (by simp)]
    simp
theorem splitL_no : ∀ {x : List UInt8}, (∀ c ∈ x, c ≠ 10) → splitL x = [x]
  | [], _ => rfl
  | c :: x, h => by
    show (if c = 10 then _ else _) = _
    rw [if_neg (h c (by simp)), splitL_no (fun d hd => h d (by simp [hd]))]
theorem splitK_lines : ∀ (k : Nat) (s : List UInt8), s.count 10 = k → Lib.splitK [10] 0 k s = splitL s
  | 0, s, h => by
    rw [splitL_no (fun c hc e => by subst e; exact absurd hc (List.count_eq_zero.1 h))]; rfl
  | k + 1, s, h => by
    have hm : (10 : UInt8) ∈ s := List.count_pos_iff.1 (by omega)
    obtain ⟨a, r, rfl, ha⟩ := List.eq_append_cons_of_mem hm
    have hi : Lib.index (a ++ 10 :: r) [10] = a.length := by rw [Lib.index_one]; exact indexByte_at r a ha
    have hr : r.count 10 = k := by
      rw [List.count_append, List.count_eq_zero.2 ha, List.count_cons_self] at h; omega
    rw [Lib.splitK, hi, if_neg (by simp), splitL_line (fun c hc e => ha (e ▸ hc))]
    congr 1
    · simp
    · rw [← splitK_lines k r hr]
      congr 1
      show List.drop ((a.length : Int).toNat + 1) _ = r
      rw [Int.toNat_natCast, ← List.drop_drop, List.drop_left]; rfl
theorem split_lines (s : ByteArray) : (Lib.splitB (bytesOf [10]) 0 (Lib.countB s (bytesOf [10])) s).map (·.data.toList) = splitL s.data.toList := by
  rw [Lib.splitB_data, bytesOf_list]
  refine splitK_lines _ _ ?_
  show _ = Lib.count s.data.toList (bytesOf [10]).data.toList
  rw [bytesOf_list, Lib.count_one]
theorem spcL_no : ∀ {x : List UInt8}, (9 : UInt8) ∉ x → spcL x = x
  | [], _ => rfl
  | c :: x, h => by
    show (if c = 9 then 32 else c) :: spcL x = _
    rw [if_neg (fun e => h (by simp [e])), spcL_no (fun hm => h (by simp [hm]))]
theorem replaceK_spc : ∀ (k : Nat) (s : List UInt8), s.count 9 = k → Lib.replaceK [9] [32] k s = spcL s
  | 0, s, h => by rw [spcL_no (List.count_eq_zero.1 h)]; rfl
  | k + 1, s, h => by
    have hm : (9 : UInt8) ∈ s := List.count_pos_iff.1 (by omega)
    obtain ⟨a, r, rfl, ha⟩ := List.eq_append_cons_of_mem hm
    have hi : Lib.index (a ++ 9 :: r) [9] = a.length := by rw [Lib.index_one]; exact indexByte_at r a ha
    have hr : r.count 9 = k := by
      rw [List.count_append, List.count_eq_zero.2 ha, List.count_cons_self] at h; omega
    rw [Lib.replaceK_hit _ _ _ _ _ hi]
    have e : (a ++ 9 :: r).drop (a.length + [(9 : UInt8)].length) = r := by
      show List.drop (a.length + 1) _ = r
      rw [← List.drop_drop, List.drop_left]; rfl
    rw [e, replaceK_spc k r hr, List.take_left]
    unfold spcL
    rw [List.map_append, List.map_cons, if_pos rfl]
    have : a.map (fun c => if c = 9 then (32 : UInt8) else c) = a := spcL_no ha
    rw [this]; simp
theorem replace_spc (s : List UInt8) : Lib.replaceAll s [9] [32] = spcL s := by
  unfold Lib.replaceAll Lib.replace
  rw [if_neg (by decide)]
  refine replaceK_spc _ _ ?_
  unfold Lib.replaceNum
  rw [if_pos (.inl (by decide)), Lib.count_one]
theorem splitL_ne : ∀ (s : List UInt8), splitL s ≠ []
  | [] => by simp [splitL]
  | c :: r => by
    unfold splitL
    split
    · simp
    · split <;> simp
theorem splitL_count : ∀ (s : List UInt8), (splitL s).length = s.count 10 + 1
  | [] => rfl
  | c :: r => by
    have ih := splitL_count r
    unfold splitL
    split
    · rename_i h; subst h; rw [List.length_cons, ih, List.count_cons_self]
    · rename_i h
      rw [List.count_cons_of_ne h]
      cases hs : splitL r with
      | nil => exact absurd hs (splitL_ne r)
      | cons x t => rw [hs] at ih; simpa using ih
/- The document's lines: read byte by byte. -/
theorem splitL_snoc_line (done : List (List UInt8)) (x r : List UInt8) (h : ∀ c ∈ x, c ≠ 10) : done ++ splitL (x ++ 10 :: r) = (done ++ [x]) ++ splitL r := by rw [splitL_line h]; simp
/-- The lines of a text of which some bytes were read: those done, and the one begun. -/
structure LinesAt (s : List UInt8) (i frm : Nat) (done : List (List UInt8)) : Prop where
  le : frm ≤ i
  le2 : i ≤ s.length
  clean : ∀ c ∈ (s.drop frm).take (i - frm), c ≠ 10
  all : splitL s = done ++ splitL (s.drop frm)
theorem LinesAt.start (s : List UInt8) : LinesAt s 0 0 [] := ⟨Nat.le_refl _, Nat.zero_le _, by simp, by simp⟩
theorem LinesAt.byte {s : List UInt8} {i frm : Nat} {done : List (List UInt8)} {c : UInt8} (h : LinesAt s i frm done) (hc : s[i]? = some c) (hn : c ≠ 10) : LinesAt s (i + 1) frm done := by
  have hlt := (List.getElem?_eq_some_iff.1 hc).1
  refine ⟨by have := h.le; omega, by omega, fun d hd => ?_, h.all⟩
  have hle := h.le
  rw [show i + 1 - frm = (i - frm) + 1 by omega, List.take_add_one, List.getElem?_drop, show frm + (i - frm) = i by omega, hc] at hd
  rcases List.mem_append.1 hd with hd | hd
  · exact h.clean d hd
  · simp at hd; subst hd; exact hn
theorem LinesAt.line {s : List UInt8} {i frm : Nat} {done : List (List UInt8)} (h : LinesAt s i frm done) (hc : s[i]? = some 10) : LinesAt s (i + 1) (i + 1) (done ++ [(s.drop frm).take (i - frm)]) := by
  have hlt := (List.getElem?_eq_some_iff.1 hc).1
  have hle := h.le
  refine ⟨Nat.le_refl _, by omega, by simp, ?_⟩
  have e : s.drop frm = (s.drop frm).take (i - frm) ++ 10 :: s.drop (i + 1) := by
    conv => lhs; rw [← List.take_append_drop (i - frm) (s.drop frm)]
    rw [List.drop_drop, show frm + (i - frm) = i by omega, drop_cons_of hc]
  rw [h.all]
  conv => lhs; rw [e]
  exact splitL_snoc_line done _ _ h.clean
theorem LinesAt.done {s : List UInt8} {frm : Nat} {done : List (List UInt8)} (h : LinesAt s s.length frm done) : splitL s = done ++ [s.drop frm] := by
  have hc := h.clean
  rw [List.take_of_length_le (by rw [List.length_drop]; omega)] at hc
  rw [h.all, splitL_no hc]
end Go.Proofs.YthlnfefpdmecaaaGreatDoor

/-
  strconv.FormatInt at base 16, of a rune's number.
-/
namespace Go.Proofs.YthlnfefpdmecaaaGreatDoor
open Go.RowKit

def lowD (d : Nat) : UInt8 := if d < 10 then UInt8.ofNat (48 + d) else UInt8.ofNat (87 + d)
/-- The last k hexadecimal digits of a number, in lower case. -/
def lowW : Nat → Nat → List UInt8
  | 0, _ => []
  | k + 1, n => lowW k (n / 16) ++ [lowD (n % 16)]
def hexL (n : Nat) : Nat := if n < 16 then 1 else if n < 256 then 2 else if n < 4096 then 3 else hexK n
def lowS (n : Nat) : List UInt8 := lowW (hexL n) n
/-- The library's table holds what is read at base 16. -/
def TabB (w : World) : Prop := w.cell? ⟨7, 15, none⟩ = some (.int .u8 4)

theorem isPow_any (w : World) : Calls Tryz.prog 337 #[.int .i64 16] w fun e w' => e = .returned (.bool true) ∧ w = w' := by
  go_enter Tryz.func337, Tryz.ntmps337
  go_wp2
  go_ret
  exact ⟨rfl, rfl⟩
theorem tz64_any (w : World) (h : TabB w) : Calls Tryz.prog 340 #[.int .u64 16] w fun e w' => e = .returned (.int .i64 4) ∧ w = w' := by
  unfold TabB at h
  have key : IntKind.u64.wrap (bits BinOp.and IntKind.u64 16 (IntKind.u64.wrap (-16)) * 285870213051353865) / 288230376151711744 = 15 := by kernel_rfl
  go_enter Tryz.func340, Tryz.ntmps340
  go_wp2_with (simp only [key])
  go_ret
  exact ⟨rfl, rfl⟩
theorem tz_any (w : World) (h : TabB w) : Calls Tryz.prog 338 #[.int .u64 16] w fun e w' => e = .returned (.int .i64 4) ∧ w = w' := by
  go_enter Tryz.func338, Tryz.ntmps338
  go_wp2_with fail
  refine (tz64_any _ h).mono ?_
  rintro e w' ⟨rfl, rfl⟩
  go_wp2
  go_ret
  exact ⟨rfl, rfl⟩

theorem hexL_bd (n : Nat) : 1 ≤ hexL n ∧ hexL n ≤ 6 := by unfold hexL; have := hexK_bd n; split <;> (try split) <;> (try split) <;> omega
theorem hexL_lt {n j : Nat} (hn : n ≤ 1114111) (h : 16 ≤ n / 16 ^ j) : j + 1 < hexL n := by
  have h2 : 16 ^ (j + 1) ≤ n := by
    have := (Nat.le_div_iff_mul_le (Nat.pow_pos (by decide : 0 < 16))).1 h
    rw [Nat.pow_succ]; omega
  have hb := hexL_bd n
  have : n < 16 ^ hexL n := by
    unfold hexL hexK
    split
    · simpa using ‹_›
    · split
      · simpa using ‹_›
      · split
        · simpa using ‹_›
        · split
          · simpa using ‹_›
          · split
            · simpa using ‹_›
            · show n < 16777216; omega
  rcases Nat.lt_or_ge (j + 1) (hexL n) with h | h
  · exact h
  · have := Nat.pow_le_pow_right (by decide : 0 < 16) h
    omega
theorem hexL_ge {n j : Nat} (h : n / 16 ^ j < 16) : hexL n ≤ j + 1 := by
  have h2 : n < 16 ^ (j + 1) := by
    rw [Nat.pow_succ]
    have := (Nat.div_lt_iff_lt_mul (Nat.pow_pos (by decide : 0 < 16))).1 h
    omega
  have hb := hexL_bd n
  rcases (by omega : j = 0 ∨ j = 1 ∨ j = 2 ∨ j = 3 ∨ j = 4 ∨ 5 ≤ j) with rfl | rfl | rfl | rfl | rfl | h
  · have : n < 16 := h2
    unfold hexL; rw [if_pos this]; omega
  · have : n < 256 := h2
    unfold hexL; split <;> (try split) <;> omega
  · have : n < 4096 := h2
    unfold hexL; split <;> (try split) <;> (try split) <;> omega
  · have : n < 65536 := h2
    unfold hexL hexK; split <;> (try split) <;> (try split) <;> (try split) <;> omega
  · have : n < 1048576 := h2
    unfold hexL hexK; split <;> (try split) <;> (try split) <;> (try split) <;> (try split) <;> omega
  · omega
/-- How far formatBits has come: j digits are laid. -/
def FmtAt (n j x : Nat) (cs : Array Value) : Prop := x = n / 16 ^ j ∧ cs.size = 65 ∧ cs.toList.drop (65 - j) = (lowW j n).map (fun c => Value.int .u8 c.toNat) ∧ j < hexL n
theorem dig36 (d : Nat) (h : d < 16) (W : World) : (Instr.index 9 (.string ⟨#[48, 49, 50, 51, 52, 53, 54, 55, 56, 57, 97, 98, 99, 100, 101, 102, 103, 104, 105, 106, 107, 108, 109, 110, 111, 112, 113, 114, 115, 116, 117, 118, 119, 120, 121, 122]⟩) (.int .u64 d)).run Tryz.prog W = .ok (.int .u8 ((lowD d).toNat : Int)) W := by
  rw [run_index_string _ _ _ _ _ Tryz.underlying9]
  rcases (by omega : d = 0 ∨ d = 1 ∨ d = 2 ∨ d = 3 ∨ d = 4 ∨ d = 5 ∨ d = 6 ∨ d = 7 ∨ d = 8 ∨ d = 9 ∨ d = 10 ∨ d = 11 ∨ d = 12 ∨ d = 13 ∨ d = 14 ∨ d = 15) with rfl | rfl | rfl | rfl | rfl | rfl | rfl | rfl | rfl | rfl | rfl | rfl | rfl | rfl | rfl | rfl <;> rfl

theorem lowW_succ (j n : Nat) : lowW (j + 1) n = lowD (n / 16 ^ j % 16) :: lowW j n := by
  induction j generalizing n with
  | zero => simp [lowW]
  | succ j ih => rw [lowW, ih, lowW, Nat.div_div_eq_div_mul, ← Nat.pow_succ']; rfl
theorem lowW_len : ∀ (k n : Nat), (lowW k n).length = k
  | 0, _ => rfl
  | k + 1, n => by rw [lowW, List.length_append, lowW_len k]; rfl
theorem drop_set_self {α : Type} : ∀ (l : List α) (k : Nat) (v : α), k < l.length → (l.set k v).drop k = v :: l.drop (k + 1)
  | [], k, _, h => by simp at h
  | _ :: _, 0, _, _ => rfl
  | _ :: l, k + 1, v, h => drop_set_self l k v (by simpa using h)
theorem dig_eq (d : Nat) (h : d < 16) (hd : d < (⟨#[48, 49, 50, 51, 52, 53, 54, 55, 56, 57, 97, 98, 99, 100, 101, 102, 103, 104, 105, 106, 107, 108, 109, 110, 111, 112, 113, 114, 115, 116, 117, 118, 119, 120, 121, 122]⟩ : ByteArray).size) :
    ((⟨#[48, 49, 50, 51, 52, 53, 54, 55, 56, 57, 97, 98, 99, 100, 101, 102, 103, 104, 105, 106, 107, 108, 109, 110, 111, 112, 113, 114, 115, 116, 117, 118, 119, 120, 121, 122]⟩ : ByteArray)[d]'hd) = lowD d := by
  rcases (by omega : d = 0 ∨ d = 1 ∨ d = 2 ∨ d = 3 ∨ d = 4 ∨ d = 5 ∨ d = 6 ∨ d = 7 ∨ d = 8 ∨ d = 9 ∨ d = 10 ∨ d = 11 ∨ d = 12 ∨ d = 13 ∨ d = 14 ∨ d = 15) with rfl | rfl | rfl | rfl | rfl | rfl | rfl | rfl | rfl | rfl | rfl | rfl | rfl | rfl | rfl | rfl <;> rfl
theorem v_u64 {a b : Int} (h : a = b) : Value.int .u64 a = .int .u64 b := by rw [h]
theorem v_u8 {a b : Int} (h : a = b) : Value.int .u8 a = .int .u8 b := by rw [h]
theorem fmt_put {n j x p d : Nat} {cs : Array Value} (h : FmtAt n j x cs) (hp : p + j = 65) (hd : x % 16 = d) :
    (cs.setIfInBounds (p - 1) (.int .u8 (lowD d).toNat)).size = 65 ∧ (cs.setIfInBounds (p - 1) (.int .u8 (lowD d).toNat)).toList.drop (65 - (j + 1)) = (lowW (j + 1) n).map (fun c => Value.int .u8 c.toNat) := by
  obtain ⟨h1, h2, h3, h4⟩ := h
  have hb := hexL_bd n
  refine ⟨by simpa using h2, ?_⟩
  rw [Array.toList_setIfInBounds, show 65 - (j + 1) = p - 1 by omega, drop_set_self _ _ _ (by rw [Array.length_toList]; omega), lowW_succ, List.map_cons, show p - 1 + 1 = 65 - j by omega, h3, ← h1, hd]
theorem fmt_next {n j x p d q : Nat} {cs : Array Value} (h : FmtAt n j x cs) (hn : n ≤ 1114111) (hp : p + j = 65) (hx : x = 16 * q + d) (h16 : d < 16) (hc : 16 ≤ x) : FmtAt n (j + 1) q (cs.setIfInBounds (p - 1) (.int .u8 (lowD d).toNat)) := by
  obtain ⟨k1, k2⟩ := fmt_put h hp (show x % 16 = d by omega)
  obtain ⟨h1, h2, h3, h4⟩ := h
  exact ⟨by rw [Nat.pow_succ, ← Nat.div_div_eq_div_mul, ← h1]; omega, k1, k2, hexL_lt hn (by omega)⟩
theorem fmt_end {n j x p : Nat} {cs : Array Value} (h : FmtAt n j x cs) (hp : p + j = 65) (hc : x < 16) :
    j + 1 = hexL n ∧ ∀ k, (hk : k < (lowS n).length) → (cs.setIfInBounds (p - 1) (.int .u8 (lowD x).toNat))[p - 1 + k]? = some (.int .u8 ((lowS n)[k].toNat : Int)) := by
  obtain ⟨k1, k2⟩ := fmt_put h hp (show x % 16 = x by omega)
  obtain ⟨h1, h2, h3, h4⟩ := h
  have hb := hexL_bd n
  have hj : j + 1 = hexL n := by have := hexL_ge (n := n) (j := j) (by omega); omega
  refine ⟨hj, fun k hk => ?_⟩
  have := congrArg (·[k]?) k2
  simp only [List.getElem?_drop, List.getElem?_map] at this
  rw [show 65 - (j + 1) + k = p - 1 + k by omega, Array.getElem?_toList] at this
  rw [this, hj]
  show Option.map _ ((lowS n)[k]?) = _
  rw [List.getElem?_eq_getElem hk]; rfl
theorem sl65 (b p : Nat) (h : 60 ≤ p) (h2 : p ≤ 65) (W : World) : (Instr.sliceAt 311 (.pointer (some ⟨b, 0, none⟩)) (some (.int .i64 ((p : Int) - 1))) none none).run Tryz.prog W = .ok (.slice (some ⟨b, p - 1, none⟩) (66 - p) (66 - p)) W := by
  rcases (by omega : p = 60 ∨ p = 61 ∨ p = 62 ∨ p = 63 ∨ p = 64 ∨ p = 65) with rfl | rfl | rfl | rfl | rfl | rfl <;> kernel_rfl

set_option maxRecDepth 100000 in
set_option maxHeartbeats 1000000 in
theorem fbits_any (n : Nat) (w : World) (h1 : n ≤ 1114111) (hT : TabB w) :
    Calls Tryz.prog 334 #[.slice none 0 0, .int .u64 n, .int .i64 16, .bool false, .bool false] w fun e w' => e = .returned (.tuple #[.slice none 0 0, .string ⟨(lowS n).toArray⟩]) ∧ Below w.heap.size w w' := by
  go_enter Tryz.func334, Tryz.ntmps334
  go_wp2_with fail
  refine (isPow_any _).mono ?_
  rintro e w' ⟨rfl, rfl⟩
  go_wp2_with fail
  refine (tz_any _ (by unfold TabB at hT ⊢; exact cell_keep hT ((Below.refl _ _).alloc (Nat.le_refl _) _))).mono ?_
  rintro e w' ⟨rfl, rfl⟩
  go_wp2
  have hblk : Blk (w.alloc (Obj.cells Tryz.zeroCells311 311)) w.heap.size 311 Tryz.zeroCells311 := Blk.new _ _ _
  have hbel : Below w.heap.size w (w.alloc (Obj.cells Tryz.zeroCells311 311)) := (Below.refl _ _).alloc (Nat.le_refl _) _
  have hz : (Tryz.zeroCells311).size = 65 := by kernel_rfl
  have HF := Lib.hid (show FmtAt n 0 n Tryz.zeroCells311 from ⟨by simp, hz, by rw [List.drop_of_length_le (by simp [hz])]; rfl, by unfold hexL; split <;> (try split) <;> (try split) <;> (try unfold hexK) <;> (try split) <;> (try split) <;> omega⟩)
  generalize Tryz.zeroCells311 = cs0 at hblk hbel HF hz ⊢
  clear hz
  go_loopg [1, 13] 6 (fun gk v1 v13 wx => ∃ (j x p : Nat) (cs : Array Value), v1 = .int .u64 x ∧ v13 = .int .i64 p ∧ Blk wx w.heap.size 311 cs ∧ Hid (FmtAt n j x cs) ∧ Hid (j + gk = 6) ∧ Hid (p + j = 65) ∧ x ≤ 1114111 ∧ p ≤ 65 ∧ 60 ≤ p ∧ Below w.heap.size w wx)
  case atStart => exact ⟨0, n, 65, _, rfl, rfl, hblk, HF, Lib.hid rfl, Lib.hid rfl, h1, by omega, by omega, hbel⟩
  case round =>
    clear hblk hbel HF
    obtain ⟨j, x, p, cs, rfl, rfl, hblk, HF, HG, HP, hx, hp1, hp2, hbel⟩ := hrel
    by_cases hc : 16 ≤ x
    · obtain ⟨q, d, hd, h16⟩ : ∃ q d, x = 16 * q + d ∧ d < 16 := ⟨x / 16, x % 16, by omega, by omega⟩
      have hand : bits BinOp.and IntKind.u64 (x : Int) 15 = (d : Int) := by
        have h := bits_and_u64_nat x 15 (by omega) (by omega)
        refine h.trans ?_
        rw [show (15 : Nat) = 2 ^ 4 - 1 from rfl, Nat.and_two_pow_sub_one_eq_mod]; omega
      have hf := hblk.frozen (p - 1)
      obtain ⟨v0, hv0⟩ : ∃ v0, cs[p - 1]? = some v0 := ⟨_, Array.getElem?_eq_getElem (by have := HF.out.2.1; omega)⟩
      have hc0 : wr.cell? ⟨w.heap.size, p - 1, none⟩ = some v0 := (hblk.cell _).trans hv0
      have Hd := Lib.hid hd
      clear hd hv0
      have HN := Lib.hid (fmt_next HF.out h1 HP.out Hd.out h16 hc)
      have hj5 : p - 1 + (j + 1) = 65 := by have := HP.out; omega
      have Hj5 := Lib.hid hj5
      have hp3 : 61 ≤ p := by have := HN.out.2.2.2; have := hexL_bd n; omega
      obtain ⟨g', rfl⟩ : ∃ g', gk = g' + 1 := ⟨gk - 1, by have := HG.out; have := HN.out.2.2.2; have := hexL_bd n; omega⟩
      clear hj5
      go_wp2
      go_roundg g'
      case rel =>
        refine ⟨j + 1, q, p - 1, _, v_u64 (by have := Hd.out; omega), by go_num, hblk.set_ _ _, ?_, Lib.hid (by have := HG.out; omega), Hj5, by have := Hd.out; omega, by omega, by omega, hbel.setCell (p := ⟨w.heap.size, p - 1, none⟩) (by simp) _⟩
        rw [v_u8 (congrArg (fun z : UInt8 => (z.toNat : Int)) (dig_eq d h16 _))]
        exact HN
      case measure => omega
    · have hf := hblk.frozen (p - 1)
      obtain ⟨v0, hv0⟩ : ∃ v0, cs[p - 1]? = some v0 := ⟨_, Array.getElem?_eq_getElem (by have := HF.out.2.1; omega)⟩
      have hc0 : wr.cell? ⟨w.heap.size, p - 1, none⟩ = some v0 := (hblk.cell _).trans hv0
      have hsl := sl65 w.heap.size p hp2 hp1
      have HE := Lib.hid (fmt_end HF.out HP.out (by omega))
      clear hv0
      go_wp2
      rw [v_u8 (congrArg (fun z : UInt8 => (z.toNat : Int)) (dig_eq x (by omega) _))]
      have hB := hblk.set_ (p - 1) (.int .u8 ((lowD x).toNat : Int))
      have hl : (lowS n).length = 66 - p := by have h9 := HE.out.1; have := HP.out; unfold lowS; rw [lowW_len]; omega
      have hcv := run_convert_bytes_back (P := Tryz.prog) (wr.setCell ⟨w.heap.size, p - 1, none⟩ (.int .u8 ((lowD x).toNat : Int))) 112 9 5 ⟨w.heap.size, p - 1, none⟩ (66 - p) (lowS n) Tryz.underlying112 Tryz.underlying5 Tryz.underlying9 (fun k hk => by
        have e : (⟨w.heap.size, p - 1, none⟩ : Addr).add k = ⟨w.heap.size, p - 1 + k, none⟩ := by
          unfold Addr.add
          split
          · rename_i h0; rw [h0, Nat.add_zero]
          · rfl
        rw [e, hB.cell, HE.out.2 k hk])
      rw [hl] at hcv
      rw [hcv]
      simp only [Result.andThen]
      rw [Oper.upon_value]
      go_wp2
      go_ret2
      exact ⟨rfl, hbel.setCell (p := ⟨w.heap.size, p - 1, none⟩) (by simp) _⟩
theorem iFormat_any (n : Nat) (w : World) (h1 : n ≤ 1114111) (hT : TabB w) :
    Calls Tryz.prog 330 #[.int .i64 n, .int .i64 16] w fun e w' => e = .returned (.string ⟨(lowS n).toArray⟩) ∧ Below w.heap.size w w' := by
  go_enter Tryz.func330, Tryz.ntmps330
  go_wp2_with fail
  refine (fbits_any n _ h1 hT).mono ?_
  rintro e w' ⟨rfl, hb⟩
  go_wp2
  go_ret
  exact ⟨rfl, hb⟩
end Go.Proofs.YthlnfefpdmecaaaGreatDoor

