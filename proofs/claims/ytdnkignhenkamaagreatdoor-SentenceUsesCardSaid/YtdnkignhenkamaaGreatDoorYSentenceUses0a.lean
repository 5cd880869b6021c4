/-
  Several texts in one, in their build order: MUtfJ, MUtfS, MGraT, MWorT, MUtfI, MNa, Nh, Ni, Nj, Nk, Gr, Pie, Ng, Nu.
-/
import Derived.Lib.MapLaws
import Derived.RegionTactic
import Derived.BigRegion
import Derived.Deep.RegionHeld3
import Derived.Deep.QuietTactic
import Derived.BigQuiet
import Derived.Laws.EntriesVeiled
import Derived.Test.YtdnkignhenkamaaGreatDoorS1a
import Derived.Test.YtdnkignhenkamaaGreatDoorS6a
import Derived.Test.YtdnkignhenkamaaGreatDoorS1b
import Derived.Test.YtdnkignhenkamaaGreatDoorS7a
import Derived.Test.YtdnkignhenkamaaGreatDoorS5a
import Derived.Test.YtdnkignhenkamaaGreatDoorS6b
import Derived.Test.YtdnkignhenkamaaGreatDoorS0a
/- -/
namespace Go.Proofs.YtdnkignhenkamaaGreatDoor
def shR (p : Nat) (x : Nat × Nat × Nat) : Nat × Nat × Nat := (x.1, x.2.1 + p, x.2.2 + p)
/-- From a place on the runes are those of what stands there. -/
theorem runes_shift (u t : ByteArray) (p : Nat) (hz : u.size = t.size + p) (hg : ∀ k, u.get! (p + k) = t.get! k) : ∀ (f g a : Nat), t.size ≤ a + f → t.size ≤ a + g → runesGo u g (a + p) = (runesGo t f a).map (shR p)
  | 0, g, a, hf, hgf => by rw [runesGo_end (by omega)]; rfl
  | f + 1, g, a, hf, hgf => by
    by_cases hlt : a < t.size
    · obtain ⟨k, rfl, hk⟩ := runesGo_step (s := u) (f := g) (a := a + p) (by omega) (by omega)
      have hd : Utf8.decode u (a + p) = Utf8.decode t a := by
        rw [Lib.decode_at, Lib.decode_at, show u.size - (a + p) = t.size - a by omega]
        rw [show a + p = p + a by omega, hg, show p + a + 1 = p + (a + 1) by omega, show p + a + 2 = p + (a + 2) by omega, show p + a + 3 = p + (a + 3) by omega, hg, hg, hg]
      have hb := dec_bd t a hlt
      rw [hk, hd, runesGo, if_pos hlt, List.map_cons]
      rw [show a + p + (Utf8.decode t a).2 = a + (Utf8.decode t a).2 + p by omega, runes_shift u t p hz hg f k _ (by omega) (by omega)]; rfl
    · rw [runesGo_end (by omega), runesGo_end (s := t) (by omega)]; rfl
theorem split_at_place (s : ByteArray) {z : Nat} : ∀ (f a : Nat), s.size ≤ a + f → (∃ x ∈ runesGo s f a, x.2.1 = z) → runesGo s f a = ((runesGo s f a).takeWhile fun x => decide (x.2.1 < z)) ++ runesGo s s.size z
  | 0, a, hf, hx => by simp [runesGo] at hx
  | f + 1, a, hf, hx => by
    have hlt : a < s.size := by
      rcases Nat.lt_or_ge a s.size with h | h
      · exact h
      · rw [runesGo_end h] at hx; simp at hx
    have hd := dec_bd s a hlt
    have hr : runesGo s (f + 1) a = ((Utf8.decode s a).1, a, a + (Utf8.decode s a).2) :: runesGo s f (a + (Utf8.decode s a).2) := by rw [runesGo, if_pos hlt]
    obtain ⟨x, hm, hxz⟩ := hx
    rw [hr] at hm ⊢
    by_cases haz : a = z
    · subst haz
      rw [List.takeWhile_cons, if_neg (by simp), List.nil_append]
      obtain ⟨k, hk, e⟩ := runesGo_step (s := s) (f := s.size) (a := a) hlt (by omega)
      rw [e]
      congr 1
      have := runes_shift s s 0 (by omega) (fun k => by rw [Nat.zero_add]) f k (a + (Utf8.decode s a).2) (by omega) (by omega)
      rw [Nat.add_zero] at this
      rw [this]
      exact (List.map_id'' (fun y => by simp [shR]) _).symm
    · rcases List.mem_cons.1 hm with rfl | hm
      · exact absurd hxz haz
      · have hb := runesGo_bd _ _ x hm
        rw [List.takeWhile_cons, if_pos (by simp; omega), List.cons_append]
        congr 1
        exact split_at_place s f _ (by omega) ⟨x, hm, hxz⟩
end Go.Proofs.YtdnkignhenkamaaGreatDoor

/- -/
namespace Go.Proofs.YtdnkignhenkamaaGreatDoor
theorem tw_mem {z : Nat} {x : Nat × Nat × Nat} : ∀ {l : List (Nat × Nat × Nat)}, x ∈ l.takeWhile (fun x => decide (x.2.1 < z)) → x.2.1 < z
  | [], h => by simp at h
  | y :: l, h => by
    rw [List.takeWhile_cons] at h
    split at h
    · rename_i hy
      rcases List.mem_cons.1 h with rfl | h
      · simpa using hy
      · exact tw_mem h
    · simp at h
theorem tw_pre (z : Nat) : ∀ (l : List (Nat × Nat × Nat)), (l.Pairwise fun x y => x.2.1 < y.2.1) → ∃ Q, l = (l.takeWhile fun x => decide (x.2.1 < z)) ++ Q ∧ ∀ x ∈ Q, z ≤ x.2.1
  | [], _ => ⟨[], rfl, by simp⟩
  | y :: l, h => by
    rw [List.pairwise_cons] at h
    rw [List.takeWhile_cons]
    by_cases hy : y.2.1 < z
    · obtain ⟨Q, h1, h2⟩ := tw_pre z l h.2
      refine ⟨Q, ?_, h2⟩
      rw [if_pos (by simpa using hy), List.cons_append, ← h1]
    · rw [if_neg (by simpa using hy)]
      refine ⟨y :: l, rfl, fun x hx => ?_⟩
      rcases List.mem_cons.1 hx with rfl | hx
      · omega
      · have := h.1 x hx; omega
/-- The runes of a part. -/
theorem runes_sub (s : ByteArray) {a b : Nat} (hab : a ≤ b) (ha : PlaceAt s a) (hb : PlaceAt s b) : ∃ P Q, runesP s = P ++ (runesP (s.extract a b)).map (shR a) ++ Q ∧ (∀ x ∈ P, x.2.1 < a) ∧ (∀ x ∈ Q, b ≤ x.2.1) := by
  have hbz := hb.le
  have hu : (s.extract 0 b).size = b := by rw [ByteArray.size_extract]; omega
  have ht : (s.extract a b).size = b - a := by rw [ByteArray.size_extract]; omega
  have h1 : runesP (s.extract 0 b) = (runesP s).takeWhile fun x => decide (x.2.1 < b) := by
    refine runesP_prefix s hbz ?_
    rcases hb with h | h
    · exact .inr (.inl h)
    · exact .inr (.inr h)
  obtain ⟨Q, hQ, hQb⟩ := tw_pre b (runesP s) (runes_rise' s)
  have hsh : runesGo (s.extract 0 b) b (0 + a) = (runesGo (s.extract a b) (s.extract a b).size 0).map (shR a) := runes_shift _ _ a (by omega) (fun k => get_sub s hbz k) _ _ 0 (by omega) (by omega)
  rw [Nat.zero_add] at hsh
  by_cases hae : a = b
  · subst hae
    have : runesP (s.extract a a) = [] := by unfold runesP; rw [ht, Nat.sub_self]; rfl
    rw [this]
    exact ⟨_, Q, by rw [List.map_nil, List.append_nil]; exact hQ, fun x hx => tw_mem hx, hQb⟩
  · have hpl : ∃ x ∈ runesP (s.extract 0 b), x.2.1 = a := by
      rcases ha with h | ⟨x, hx, e⟩
      · omega
      · refine ⟨x, ?_, e⟩
        rw [h1]
        have hx' := hx
        rw [hQ] at hx'
        rcases List.mem_append.1 hx' with h | h
        · exact h
        · have := hQb x h; omega
    have h2 := split_at_place (s.extract 0 b) (z := a) b 0 (by omega) (by unfold runesP at hpl; rw [hu] at hpl; exact hpl)
    rw [hu, hsh] at h2
    refine ⟨(runesGo (s.extract 0 b) b 0).takeWhile fun x => decide (x.2.1 < a), Q, ?_, fun x hx => tw_mem hx, hQb⟩
    conv => lhs; rw [hQ, ← h1]
    congr 1
    unfold runesP
    rw [hu]
    exact h2
end Go.Proofs.YtdnkignhenkamaaGreatDoor

/- -/
namespace Go.Proofs.YtdnkignhenkamaaGreatDoor
theorem contig_next : ∀ (r : List (Nat × Nat × Nat)) (p z : Nat), Contig p r z → ∀ x ∈ r, x.2.1 < x.2.2 ∧ x.2.2 ≤ z ∧ (x.2.2 = z ∨ ∃ y ∈ r, y.2.1 = x.2.2)
  | [], _, _, _, x, h => by cases h
  | a :: r, p, z, h, x, hx => by
    obtain ⟨k1, k2, k3⟩ := h
    have hle : ∀ (r : List (Nat × Nat × Nat)) (p z : Nat), Contig p r z → p ≤ z := by
      intro r
      induction r with
      | nil => intro p z h; exact Nat.le_of_eq h
      | cons w r ih => intro p z h; obtain ⟨g1, g2, g3⟩ := h; have := ih _ _ g3; omega
    rcases List.mem_cons.1 hx with rfl | hx
    · refine ⟨by omega, hle _ _ _ k3, ?_⟩
      cases r with
      | nil => exact .inl k3
      | cons b r => obtain ⟨g1, _, _⟩ := k3; exact .inr ⟨b, by simp, g1⟩
    · obtain ⟨h1, h2, h3⟩ := contig_next r _ z k3 x hx
      exact ⟨h1, h2, h3.imp id fun ⟨y, hy, e⟩ => ⟨y, List.mem_cons_of_mem _ hy, e⟩⟩
theorem place_next {s : ByteArray} {x : Nat × Nat × Nat} (hx : x ∈ runesP s) : x.2.1 < x.2.2 ∧ x.2.2 ≤ s.size ∧ PlaceAt s x.2.2 := by
  obtain ⟨h1, h2, h3⟩ := contig_next _ _ _ (runesP_contig s) x hx
  exact ⟨h1, h2, h3⟩
end Go.Proofs.YtdnkignhenkamaaGreatDoor

/- -/
namespace Go.Proofs.YtdnkignhenkamaaGreatDoor
theorem clP_le (s : ByteArray) (x : Nat × Nat) : (clP s x).1 ≤ (clP s x).2 ∧ (clP s x).2 ≤ s.size := by
  unfold clP
  split
  · assumption
  · exact ⟨Nat.le_refl _, Nat.zero_le _⟩
end Go.Proofs.YtdnkignhenkamaaGreatDoor

/- -/
namespace Go.Proofs.YtdnkignhenkamaaGreatDoor
theorem decN_room {n b0 b1 b2 b3 R W : Nat} (h : Lib.decodeN n b0 b1 b2 b3 = (R, W)) (hW : 2 ≤ W) : W ≤ n := by
  unfold Lib.decodeN at h
  repeat' split at h
  all_goals (injection h with _ h; omega)
theorem dec_in {s : ByteArray} {i R W : Nat} (h : Utf8.decode s i = (R, W)) (hW : 2 ≤ W) : i + W ≤ s.size := by
  rw [Lib.decode_at] at h
  have := decN_room h hW; omega
theorem in_rune : ∀ (r : List (Nat × Nat × Nat)) (p z q : Nat), Contig p r z → p ≤ q → q < z → ∃ x ∈ r, x.2.1 ≤ q ∧ q < x.2.2
  | [], p, z, q, h, h1, h2 => by have : p = z := h; omega
  | a :: r, p, z, q, h, h1, h2 => by
    obtain ⟨k1, k2, k3⟩ := h
    rcases Nat.lt_or_ge q a.2.2 with hlt | hge
    · exact ⟨a, by simp, by omega, hlt⟩
    · obtain ⟨x, hx, e⟩ := in_rune r _ z q k3 hge h2
      exact ⟨x, by simp [hx], e⟩
/-- An edge is a place where a rune begins, or the end. -/
theorem edge_iff (s : ByteArray) {z : Nat} (hz : z ≤ s.size) : edgeB s z = true ↔ PlaceAt s z := by
  unfold edgeB
  rw [List.all_eq_true]
  constructor
  · intro h
    rcases Nat.lt_or_ge z s.size with hlt | hge
    · obtain ⟨x, hx, h1, h2⟩ := in_rune _ 0 s.size z (runesP_contig s) (Nat.zero_le _) hlt
      have hb := runesP_bd x hx
      have hd := runesGo_dec _ _ x hx
      rcases Nat.lt_or_ge x.2.1 z with h3 | h3
      · exfalso
        have := h (z - x.2.1) (by simp; omega)
        rw [show z - (z - x.2.1) = x.2.1 by omega, hd] at this
        simp at this
        omega
      · exact .inr ⟨x, hx, by omega⟩
    · exact .inl (by omega)
  · intro hp b hb
    simp only [List.mem_cons, List.not_mem_nil, or_false] at hb
    rw [Bool.not_eq_true', Bool.and_eq_false_iff, decide_eq_false_iff_not, decide_eq_false_iff_not]
    by_cases hbz : b ≤ z
    · refine .inr fun hw => ?_
      obtain ⟨⟨R, W⟩, hD⟩ : ∃ d, Utf8.decode s (z - b) = d := ⟨_, rfl⟩
      rw [hD] at hw
      simp only at hw
      have hroom := dec_in hD (by omega)
      have hl := dec_lead hD (by omega)
      obtain ⟨x, hx, e⟩ := lead_at s (z := z - b) (by omega) (by omega) s.size 0 (by omega) (Nat.zero_le _)
      have hd := runesGo_dec _ _ x hx
      rw [e, hD] at hd
      injection hd with _ hd2
      have hbd := runesP_bd x hx
      rcases hp with h | ⟨y, hy, h⟩
      · omega
      · exact place_gap s _ 0 s.size (runesP_contig s) x hx y hy (by omega)
    · exact .inl hbz
end Go.Proofs.YtdnkignhenkamaaGreatDoor

/- -/
namespace Go.Proofs.YtdnkignhenkamaaGreatDoor
open Go.RowKit
set_option maxHeartbeats 1000000 in
theorem nClass_any (r : Int) (w : World) (hE : Env w) : Calls Tryz.prog 42 #[.int .i32 r] w fun e w' => e = .returned (.int .i64 (gS r : Nat)) ∧ Below w.heap.size w w' := by
  have HC := Lib.hid (ndb_any w hE)
  go_enter Tryz.func42, Tryz.ntmps42
  go_wp2_with fail
  refine HC.out.mono ?_
  rintro e w1 ⟨p, rfl, hd, hb1⟩
  have HG := Lib.hid (wGet_any p sentsD r w1 hd sentsOk.1 sentsOk.2.1)
  obtain ⟨k, Hk⟩ : ∃ k, Hid (sentsD.get r = k) := ⟨_, Lib.hid rfl⟩
  rw [Hk.out] at HG
  go_wp2_with fail
  refine HG.out.mono ?_
  rintro e w2 ⟨rfl, hb2⟩
  go_wp2
  go_ret
  exact ⟨by rw [show gS r = k from Hk.out]; rfl, below_two hb1 hb2⟩
end Go.Proofs.YtdnkignhenkamaaGreatDoor

/- -/
namespace Go.Proofs.YtdnkignhenkamaaGreatDoor
open Go.RowKit
theorem hasL_iff {L : List Nat} {z : Int} : hasL L z = true ↔ ∃ a ∈ L, (a : Int) = z := by
  unfold hasL
  rw [List.contains_iff_mem, List.mem_map]
theorem isE_has (s : ByteArray) (z : Int) : isE s z = hasL (edgesP s) z := by
  have hm : ∀ a, a ∈ edgesP s ↔ PlaceAt s a := fun a => by
    unfold edgesP PlaceAt
    rw [List.mem_append, List.mem_map, List.mem_singleton]
    exact Or.comm
  rw [Bool.eq_iff_iff, hasL_iff]
  unfold isE
  by_cases h : z < 0 ∨ (s.size : Int) < z
  · rw [if_pos h]
    refine ⟨fun e => by simp at e, ?_⟩
    rintro ⟨a, ha, rfl⟩
    have := ((hm a).1 ha).le
    omega
  · rw [if_neg h, edge_iff s (by omega), ← hm]
    constructor
    · intro h2; exact ⟨z.toNat, h2, by omega⟩
    · rintro ⟨a, ha, rfl⟩; exact ha
theorem edgesP_len (s : ByteArray) : (edgesP s).length ≤ s.size + 1 := by
  unfold edgesP
  rw [List.length_append, List.length_map, List.length_singleton]
  have := runesP_len s
  omega
set_option maxRecDepth 100000 in
set_option maxHeartbeats 2000000 in
theorem tIs_any (s : ByteArray) (x : Int) (w : World) (hs : s.size ≤ 1000000) :
    Calls Tryz.prog 72 #[.string s, .int .i64 x] w fun e w' => e = .returned (.bool (isE s x)) ∧ Below w.heap.size w w' := by
  rw [isE_has]
  have HB := Lib.hid (tEdges_any s w hs)
  have hL := edgesP_len s
  generalize edgesP s = L at HB hL ⊢
  have HS := Lib.hid (fun i y (h : L[i]? = some y) => hasL_step (x := x) h)
  go_enter Tryz.func72, Tryz.ntmps72
  go_wp2_with fail
  refine HB.out.mono ?_
  rintro e w1 ⟨A, n, c, rfl, ho, hb1⟩
  obtain rfl : L.length = n := by have := ho.len; simpa using this
  have rd := ho.rd (by decide)
  clear HB ho
  go_wp2_with fail
  go_loopw [6] (fun v wr => ∃ i : Nat, v = .int .i64 i ∧ i ≤ L.length ∧ wr = w1 ∧ Hid (hasL (L.take i) x = false)) (fun v _ => L.length - (intOf v).toNat)
  case atStart => exact ⟨0, rfl, by omega, rfl, Lib.hid rfl⟩
  case round =>
    obtain ⟨i, rfl, hi, rfl, HF⟩ := hrel
    by_cases hlt : i < L.length
    · obtain ⟨y, Hy⟩ : ∃ y, Hid (L[i]? = some y) := ⟨_, Lib.hid (List.getElem?_eq_getElem hlt)⟩
      obtain ⟨b, off, rfl, cy⟩ := rd.atP' Hy.out
      have HN := Lib.hid (HS.out i y Hy.out)
      cases q : ((y : Int) == x) with
      | true =>
        have HV : Hid (hasL L x = true) := Lib.hid (hasL_iff.2 ⟨y, List.mem_of_getElem? Hy.out, by simpa using q⟩)
        go_wp2
        go_ret
        exact ⟨by rw [HV.out]; rfl, hb1⟩
      | false =>
        have HN2 : Hid (hasL (L.take (i + 1)) x = false) := Lib.hid (by rw [HN.out, HF.out, q]; rfl)
        go_wp2
        go_roundw
        case rel => exact ⟨i + 1, by go_num, by omega, by first | rfl | trivial, HN2⟩
        case measure => simp [intOf]; omega
    · have HV : Hid (hasL L x = false) := Lib.hid (by rw [← HF.out, List.take_of_length_le (by omega)])
      go_wp2
      go_ret
      exact ⟨by rw [HV.out]; rfl, hb1⟩
set_option maxHeartbeats 1000000 in
theorem dwithin_any (s : ByteArray) (x y : Int) (w : World) (hs : s.size ≤ 1000000) :
    Calls Tryz.prog 84 #[.string s, .int .i64 x, .int .i64 y] w fun e w' => e = .returned (.bool (withinB s x y)) ∧ Below w.heap.size w w' := by
  have H1 := Lib.hid (fun W => tIs_any s x W hs)
  have H2 := Lib.hid (fun W => tIs_any s y W hs)
  have HV : Hid (withinB s x y = (isE s x && isE s y && decide (x ≤ y))) := Lib.hid (by unfold withinB; cases decide (x ≤ y) <;> cases isE s x <;> cases isE s y <;> rfl)
  generalize isE s x = p at HV H1
  generalize isE s y = q at HV H2
  go_enter Tryz.func84, Tryz.ntmps84
  go_wp2_with fail
  refine (H1.out w).mono ?_
  rintro e w1 ⟨rfl, hb1⟩
  cases p with
  | false =>
    go_wp2
    go_ret
    exact ⟨by rw [HV.out]; rfl, hb1⟩
  | true =>
    go_wp2_with fail
    refine (H2.out w1).mono ?_
    rintro e w2 ⟨rfl, hb2⟩
    cases q with
    | false =>
      go_wp2
      go_ret
      exact ⟨by rw [HV.out]; rfl, below_two hb1 hb2⟩
    | true =>
      obtain ⟨d, hd⟩ : ∃ d, decide (x ≤ y) = d := ⟨_, rfl⟩
      have HV2 : Hid (withinB s x y = d) := Lib.hid (by rw [HV.out, hd]; rfl)
      go_wp2
      go_ret
      exact ⟨by rw [HV2.out] <;> rfl, below_two hb1 hb2⟩
set_option maxHeartbeats 1000000 in
theorem dblank_any (c : Nat) (w : World) : Calls Tryz.prog 86 #[.int .i64 (c : Nat)] w fun e w' => e = .returned (.bool (blS c)) ∧ w = w' := by
  have HV : Hid (blS c = (((c : Int) == 4) || ((c : Int) == 3) || ((c : Int) == 1) || ((c : Int) == 2))) := Lib.hid (by
    rw [Bool.eq_iff_iff]
    unfold blS
    simp only [Bool.or_eq_true, beq_iff_eq]
    omega)
  cases q1 : ((c : Int) == 4) with
  | true =>
    rw [q1] at HV
    go_enter Tryz.func86, Tryz.ntmps86
    go_wp2
    go_ret
    exact ⟨by rw [HV.out]; rfl, rfl⟩
  | false =>
  cases q2 : ((c : Int) == 3) with
  | true =>
    rw [q1, q2] at HV
    go_enter Tryz.func86, Tryz.ntmps86
    go_wp2
    go_ret
    exact ⟨by rw [HV.out]; rfl, rfl⟩
  | false =>
  cases q3 : ((c : Int) == 1) with
  | true =>
    rw [q1, q2, q3] at HV
    go_enter Tryz.func86, Tryz.ntmps86
    go_wp2
    go_ret
    exact ⟨by rw [HV.out]; rfl, rfl⟩
  | false =>
  obtain ⟨d, hd⟩ : ∃ d, ((c : Int) == 2) = d := ⟨_, rfl⟩
  rw [q1, q2, q3, hd] at HV
  go_enter Tryz.func86, Tryz.ntmps86
  go_wp2
  go_ret
  exact ⟨by rw [HV.out] <;> rfl, rfl⟩
end Go.Proofs.YtdnkignhenkamaaGreatDoor

/- -/
namespace Go.Proofs.YtdnkignhenkamaaGreatDoor
open Go.RowKit
def kindC : List Nat → Nat
  | [] => 0
  | c :: r => if c = 9 then 1 else if c = 10 then 2 else if clS c then kindC r else 0
theorem kindC_step {C : List Nat} {k y : Nat} (h : C[k]? = some y) : kindC ((C.take (k + 1)).reverse) = if y = 9 then 1 else if y = 10 then 2 else if clS y then kindC ((C.take k).reverse) else 0 := by
  rw [List.take_add_one, h, Option.toList_some, List.reverse_append, List.reverse_singleton, List.singleton_append, kindC]
def dKindV (s : ByteArray) (x y : Int) : Nat := if withinB s x y then kindC (ofC sentsD (s.extract x.toNat y.toNat)).reverse else 0
theorem within_at {s : ByteArray} {x y : Int} (h : withinB s x y = true) : ∃ a b : Nat, x = a ∧ y = b ∧ a ≤ b ∧ b ≤ s.size := by
  unfold withinB at h
  rw [Bool.and_eq_true, Bool.and_eq_true, decide_eq_true_iff] at h
  obtain ⟨⟨h1, h2⟩, h3⟩ := h
  unfold isE at h2 h3
  by_cases k1 : x < 0 ∨ (s.size : Int) < x
  · rw [if_pos k1] at h2; cases h2
  by_cases k2 : y < 0 ∨ (s.size : Int) < y
  · rw [if_pos k2] at h3; cases h3
  exact ⟨x.toNat, y.toNat, by omega, by omega, by omega, by omega⟩
theorem clS_neq (c : Nat) : clS c = !(((c : Int) != 11) && ((c : Int) != 13) && !blS c) := by
  unfold clS
  have e1 : ((c : Int) != 11) = !(c == 11) := by
    rw [Bool.eq_iff_iff]; simp; omega
  have e2 : ((c : Int) != 13) = !(c == 13) := by
    rw [Bool.eq_iff_iff]; simp; omega
  rw [e1, e2]
  cases blS c <;> cases (c == 11) <;> cases (c == 13) <;> rfl
set_option maxRecDepth 100000 in
set_option maxHeartbeats 8000000 in
theorem dKind_any (base pb : Nat) (s : ByteArray) (x y : Int) (rules : List RuleP) (rest : Bool) (w : World) (hB : BrkB w base pb sentsD rules rest) (hs : s.size ≤ 1000000) :
    Calls Tryz.prog 54 #[.pointer (some ⟨pb, 0, none⟩), .string s, .int .i64 x, .int .i64 y] w fun e w' => e = .returned (.int .i64 (dKindV s x y : Nat)) ∧ Below w.heap.size w w' := by
  have HW := Lib.hid (dwithin_any s x y w hs)
  cases hw : withinB s x y with
  | false =>
    have HV : Hid (dKindV s x y = 0) := Lib.hid (by unfold dKindV; rw [hw]; rfl)
    rw [hw] at HW
    clear hw
    go_enter Tryz.func54, Tryz.ntmps54
    go_wp2_with fail
    refine HW.out.mono ?_
    rintro e w1 ⟨rfl, hb1⟩
    go_wp2
    go_ret
    exact ⟨by rw [HV.out]; rfl, hb1⟩
  | true =>
  rw [hw] at HW
  have HV : Hid (dKindV s x y = kindC (ofC sentsD (s.extract x.toNat y.toNat)).reverse) := Lib.hid (by unfold dKindV; rw [hw]; rfl)
  obtain ⟨a, b, rfl, rfl, hab, hbs⟩ := within_at hw
  rw [Int.toNat_natCast, Int.toNat_natCast] at HV
  obtain ⟨p, xx, n, c, A, X, hb, hd, _⟩ := hB.ex
  have HO := Lib.hid (fun W (h : Below w.heap.size w W) => vOf_any base p xx sentsD (s.extract a b) W (hd.below h) sentsOk.1 sentsOk.2.1 (by rw [ByteArray.size_extract]; omega))
  have hC : (ofC sentsD (s.extract a b)).length ≤ 1000000 := by
    unfold ofC; rw [List.length_map]
    have := runesP_len (s.extract a b)
    rw [ByteArray.size_extract] at this
    omega
  generalize ofC sentsD (s.extract a b) = C at HV HO hC
  have d0 := hb.cell 0
  simp only [List.getElem?_toArray, List.getElem?_cons_zero] at d0
  have HS := Lib.hid (fun k y (h : C[k]? = some y) => kindC_step h)
  have hab' : (a : Int) ≤ (b : Int) := by omega
  have hbs' : (b : Int) ≤ (s.size : Int) := by omega
  clear hw hB hb hd
  go_enter Tryz.func54, Tryz.ntmps54
  go_wp2_with fail
  refine HW.out.mono ?_
  rintro e w1 ⟨rfl, hb1⟩
  have c0 := cell_keep d0 hb1
  clear HW
  go_wp2_with fail
  go_region_held3 (fun W => W.cell? ⟨pb, 0, none⟩ = some (.pointer (some ⟨p, 0, none⟩)) ∧ Below w.heap.size w W)
    (first | exact ⟨ka, Ba⟩ | exact ⟨c0, hb1⟩ | exact ⟨c0, below_drewN hb1 1⟩)
    (first | (go_at_call 65; go_split_ands; refine (HO.out _ (by assumption)).mono ?_; rintro e wa ⟨A2, n2, c2, rfl, ho2, hba⟩; have Ba := below_two (by assumption) hba; have ka := cell_keep d0 Ba))
  obtain rfl : C.length = n2 := by have := ho2.len; simpa using this
  have rd := ho2.rd (by decide)
  clear ho2 HO d0 c0 ka
  go_wp2_with fail
  go_loopw [10] (fun v wr => ∃ k : Nat, v = .int .i64 ((k : Int) - 1) ∧ k ≤ C.length ∧ wr = wa ∧ Hid (kindC C.reverse = kindC ((C.take k).reverse))) (fun v _ => ((intOf v) + 1).toNat)
  case atStart => exact ⟨C.length, rfl, Nat.le_refl _, rfl, Lib.hid (by rw [List.take_length])⟩
  case round =>
    obtain ⟨k, rfl, hk, rfl, HK⟩ := hrel
    by_cases hk0 : k = 0
    · have HV2 : Hid (dKindV s a b = 0) := Lib.hid (by rw [HV.out, HK.out, hk0]; rfl)
      have g0 : ¬ ((k : Int) - 1 ≥ 0) := by omega
      clear hk0
      go_wp2
      go_ret
      exact ⟨by rw [HV2.out]; rfl, Ba⟩
    obtain ⟨j, hj⟩ : ∃ j, k = j + 1 := ⟨k - 1, by omega⟩
    have e1 : (k : Int) - 1 = (j : Int) := by omega
    rw [e1]
    have hjn : j < C.length := by omega
    obtain ⟨y, Hy⟩ : ∃ y, Hid (C[j]? = some y) := ⟨_, Lib.hid (List.getElem?_eq_getElem hjn)⟩
    obtain ⟨bk, off, rfl, cy⟩ := rd.atP' Hy.out
    have HN := Lib.hid (HS.out j y Hy.out)
    have HJ := Lib.hid hj
    rw [hj] at HK
    have hj0 : (0 : Int) ≤ (j : Int) := by omega
    have hjm : (j : Int) < (C.length : Int) := by omega
    have hjg : (j : Int) ≥ 0 := hj0
    clear hj e1 hk0
    cases q1 : ((y : Int) == 9) with
    | true =>
      have HV2 : Hid (dKindV s a b = 1) := Lib.hid (by
        have : y = 9 := by have := eq_of_beq q1; omega
        rw [HV.out, HK.out, HN.out, if_pos this])
      go_wp2
      go_ret
      exact ⟨by rw [HV2.out]; rfl, Ba⟩
    | false =>
    have h1 : ¬ y = 9 := fun h => by subst h; simp at q1
    rw [if_neg h1] at HN
    cases q2 : ((y : Int) == 10) with
    | true =>
      have HV2 : Hid (dKindV s a b = 2) := Lib.hid (by
        have : y = 10 := by have := eq_of_beq q2; omega
        rw [HV.out, HK.out, HN.out, if_pos this])
      clear h1
      go_wp2
      go_ret
      exact ⟨by rw [HV2.out]; rfl, Ba⟩
    | false =>
    have h2 : ¬ y = 10 := fun h => by subst h; simp at q2
    rw [if_neg h2] at HN
    clear h1 h2
    have HBl := Lib.hid (dblank_any y wr)
    have hcl := clS_neq y
    obtain ⟨q3, hq3⟩ : ∃ q, ((y : Int) != 11) = q := ⟨_, rfl⟩
    obtain ⟨q4, hq4⟩ : ∃ q, ((y : Int) != 13) = q := ⟨_, rfl⟩
    obtain ⟨q5, hq5⟩ : ∃ q, blS y = q := ⟨_, rfl⟩
    rw [hq5] at HBl
    rw [hq3, hq4, hq5] at hcl
    cases q3 with
    | false =>
      have HN2 : Hid (kindC C.reverse = kindC ((C.take j).reverse)) := Lib.hid (by rw [HK.out, HN.out, hcl]; rfl)
      clear hcl hq5
      go_wp2
      go_roundw
      case rel => exact ⟨j, by first | rfl | go_num, by omega, by first | rfl | trivial, HN2⟩
      case measure => simp [intOf] <;> omega
    | true =>
    cases q4 with
    | false =>
      have HN2 : Hid (kindC C.reverse = kindC ((C.take j).reverse)) := Lib.hid (by rw [HK.out, HN.out, hcl]; rfl)
      clear hcl hq5
      go_wp2
      go_roundw
      case rel => exact ⟨j, by first | rfl | go_num, by omega, by first | rfl | trivial, HN2⟩
      case measure => simp [intOf] <;> omega
    | true =>
    cases q5 with
    | true =>
      have HN2 : Hid (kindC C.reverse = kindC ((C.take j).reverse)) := Lib.hid (by rw [HK.out, HN.out, hcl]; rfl)
      clear hcl hq5
      go_wp2_with fail
      refine HBl.out.mono ?_
      rintro e w3 ⟨rfl, rfl⟩
      go_wp2
      go_roundw
      case rel => exact ⟨j, by first | rfl | go_num, by omega, by first | rfl | trivial, HN2⟩
      case measure => simp [intOf] <;> omega
    | false =>
      have HV2 : Hid (dKindV s a b = 0) := Lib.hid (by rw [HV.out, HK.out, HN.out, hcl]; rfl)
      clear hcl hq5
      go_wp2_with fail
      refine HBl.out.mono ?_
      rintro e w3 ⟨rfl, rfl⟩
      go_wp2
      go_ret
      exact ⟨by rw [HV2.out]; rfl, Ba⟩
end Go.Proofs.YtdnkignhenkamaaGreatDoor

/- -/
namespace Go.Proofs.YtdnkignhenkamaaGreatDoor
open Go.RowKit
theorem extract_drop (s : ByteArray) (a b p : Nat) : (s.extract (a + p) b).data.toList = (s.extract a b).data.toList.drop p := by
  rw [ByteArray.data_extract, ByteArray.data_extract, Array.toList_extract, Array.toList_extract, List.extract_eq_take_drop, List.extract_eq_take_drop, List.drop_take, List.drop_drop]
  congr 1
  omega
theorem dec_extract (s : ByteArray) (a b p : Nat) : Utf8.decode (s.extract (a + p) b) 0 = Utf8.decode (s.extract a b) p := by
  rw [← dec_drop, ← dec_drop, List.drop_zero, extract_drop]
def headR : List (Nat × Nat × Nat) → Nat → Nat
  | [], z => z
  | x :: l, z => if blS (gS (x.1 : Nat)) then headR l z else x.2.1
def lastR : List (Nat × Nat × Nat) → Nat → Nat
  | [], p => p
  | x :: l, p => if blS (gS (x.1 : Nat)) then lastR l p else x.2.2
theorem head_go (s : ByteArray) (a b : Nat) (hab : a ≤ b) (hb : b ≤ s.size) : ∀ (f p g : Nat), b - a - p ≤ f → p ≤ b - a → b - a ≤ p + g → headF s f (a + p) b = a + headR (runesGo (s.extract a b) g p) (b - a) := by
  have ht : (s.extract a b).size = b - a := by rw [ByteArray.size_extract]; omega
  intro f
  induction f with
  | zero =>
    intro p g h1 h2 h3
    rw [runesGo_end (by omega)]
    show a + p = a + (b - a)
    omega
  | succ f ih =>
    intro p g h1 h2 h3
    by_cases hp : p < b - a
    · obtain ⟨g', rfl, e⟩ := runesGo_step (s := s.extract a b) (f := g) (a := p) (by omega) (by omega)
      have hbd := dec_bd (s.extract a b) p (by omega)
      rw [ht] at hbd
      rw [e, headR, headF, if_pos (by omega), dec_extract]
      by_cases hq : blS (gS ((Utf8.decode (s.extract a b) p).1 : Nat)) = true
      · rw [if_pos hq, if_pos hq, Nat.add_assoc]
        exact ih _ g' (by omega) (by omega) (by omega)
      · rw [if_neg hq, if_neg hq]
    · rw [runesGo_end (by omega), headF, if_neg (by omega)]
      show a + p = a + (b - a)
      omega
theorem head_runes (s : ByteArray) (a b : Nat) (hab : a ≤ b) (hb : b ≤ s.size) : headF s (b - a) a b = a + headR (runesP (s.extract a b)) (b - a) := by
  have ht : (s.extract a b).size = b - a := by rw [ByteArray.size_extract]; omega
  have := head_go s a b hab hb (b - a) 0 (b - a) (by omega) (by omega) (by omega)
  rw [Nat.add_zero] at this
  rw [this]
  unfold runesP
  rw [ht]
theorem last_at (t : ByteArray) {x : Nat × Nat × Nat} (hx : x ∈ runesP t) {p : Nat} (hp : p ≤ x.2.1) (hpl : PlaceAt t p) : Lib.decodeLastL (t.extract p x.2.2).data.toList = (x.1, x.2.2 - x.2.1) := by
  obtain ⟨h1, h2, h3⟩ := place_next hx
  obtain ⟨P, Q, e, hP, hQ⟩ := runes_sub t (a := p) (b := x.2.2) (by omega) hpl h3
  have hu : (t.extract p x.2.2).size = x.2.2 - p := by rw [ByteArray.size_extract]; omega
  rw [e] at hx
  have hm : x ∈ (runesP (t.extract p x.2.2)).map (shR p) := by
    rcases List.mem_append.1 hx with h | h
    · rcases List.mem_append.1 h with h | h
      · have := hP x h; omega
      · exact h
    · have := hQ x h; omega
  obtain ⟨y, hy, rfl⟩ := List.mem_map.1 hm
  have h4 := runesP_bd y hy
  rw [last_rune _ hy (by simp only [shR] at hu ⊢; omega)]
  simp only [shR]
  congr 1
  omega
theorem extract_two (s : ByteArray) (a b p q : Nat) (hq : a + q ≤ b) : s.extract (a + p) (a + q) = (s.extract a b).extract p q := by
  rw [ByteArray.extract_extract]
  congr 1
  omega
theorem contigL_le : ∀ {r : List (Nat × Nat × Nat)} {p z : Nat}, Contig p r z → p ≤ z
  | [], p, z, h => by have : p = z := h; omega
  | x :: r, p, z, ⟨h1, h2, h3⟩ => by have := contigL_le h3; omega
theorem contig_snoc : ∀ {A : List (Nat × Nat × Nat)} {p z : Nat} {x : Nat × Nat × Nat}, Contig p (A ++ [x]) z → Contig p A x.2.1 ∧ x.2.1 < x.2.2 ∧ x.2.2 = z
  | [], p, z, x, ⟨h1, h2, h3⟩ => ⟨h1.symm, by omega, h3⟩
  | y :: A, p, z, x, ⟨h1, h2, h3⟩ => by
    obtain ⟨k1, k2, k3⟩ := contig_snoc h3
    exact ⟨⟨h1, h2, k1⟩, k2, k3⟩
theorem last_go (s : ByteArray) (a b p : Nat) (hp : PlaceAt (s.extract a b) p) : ∀ (n : Nat) (A : List (Nat × Nat × Nat)) (f z : Nat), A.length = n → n ≤ f → Contig p A z → (∀ x ∈ A, x ∈ runesP (s.extract a b)) → z ≤ b - a →
    lastF s f (a + p) (a + z) = a + lastR A.reverse p ∧ kindF s f (a + p) (a + z) = kindC (A.reverse.map fun x => gS (x.1 : Nat)) := by
  intro n
  induction n with
  | zero =>
    intro A f z hA _ hc _ _
    have : A = [] := List.length_eq_zero_iff.1 hA
    subst this
    have hz : p = z := hc
    subst hz
    cases f with
    | zero => exact ⟨rfl, rfl⟩
    | succ f => exact ⟨if_neg (Nat.lt_irrefl _), if_neg (Nat.lt_irrefl _)⟩
  | succ n ih =>
    intro A f z hA hf hc hm hz
    obtain ⟨f, rfl⟩ : ∃ f', f = f' + 1 := ⟨f - 1, by omega⟩
    obtain ⟨A', x, rfl⟩ : ∃ A' x, A = A' ++ [x] := by
      have : A ≠ [] := by rintro rfl; simp at hA
      exact ⟨A.dropLast, A.getLast this, (List.dropLast_concat_getLast this).symm⟩
    obtain ⟨c1, c2, rfl⟩ := contig_snoc hc
    have hx := hm x (by simp)
    have hpx : p ≤ x.2.1 := contigL_le c1
    have hl := last_at (s.extract a b) hx hpx hp
    rw [← extract_two s a b p x.2.2 (by omega)] at hl
    have hA' : A'.length = n := by rw [List.length_append, List.length_singleton] at hA; omega
    have hi := ih A' f x.2.1 hA' (by omega) c1 (fun y hy => hm y (by simp [hy])) (by omega)
    have he : a + x.2.2 - (x.2.2 - x.2.1) = a + x.2.1 := by omega
    rw [List.reverse_append, List.reverse_singleton, List.singleton_append, List.map_cons]
    have hlt : a + p < a + x.2.2 := by omega
    constructor
    · have e : lastF s (f + 1) (a + p) (a + x.2.2) = if a + p < a + x.2.2 then (if blS (gS ((Lib.decodeLastL (s.extract (a + p) (a + x.2.2)).data.toList).1 : Nat)) then lastF s f (a + p) (a + x.2.2 - (Lib.decodeLastL (s.extract (a + p) (a + x.2.2)).data.toList).2) else a + x.2.2) else a + x.2.2 := rfl
      rw [e, if_pos hlt, hl, lastR]
      simp only
      rw [he, hi.1]
      split <;> rfl
    · have e : kindF s (f + 1) (a + p) (a + x.2.2) = if a + p < a + x.2.2 then (if gS ((Lib.decodeLastL (s.extract (a + p) (a + x.2.2)).data.toList).1 : Nat) = 9 then 1 else if gS ((Lib.decodeLastL (s.extract (a + p) (a + x.2.2)).data.toList).1 : Nat) = 10 then 2 else if clS (gS ((Lib.decodeLastL (s.extract (a + p) (a + x.2.2)).data.toList).1 : Nat)) then kindF s f (a + p) (a + x.2.2 - (Lib.decodeLastL (s.extract (a + p) (a + x.2.2)).data.toList).2) else 0) else 0 := rfl
      rw [e, if_pos hlt, hl, kindC]
      simp only
      rw [he, hi.2]
theorem kind_runes (s : ByteArray) (a b : Nat) (hab : a ≤ b) (hb : b ≤ s.size) : kindF s b a b = kindC (ofC sentsD (s.extract a b)).reverse := by
  have ht : (s.extract a b).size = b - a := by rw [ByteArray.size_extract]; omega
  have hc := runesP_contig (s.extract a b)
  have hp : PlaceAt (s.extract a b) 0 := by
    cases hr : runesP (s.extract a b) with
    | nil => rw [hr] at hc; have : 0 = (s.extract a b).size := hc; exact .inl this
    | cons x l => rw [hr] at hc; exact .inr ⟨x, by rw [hr]; exact List.mem_cons_self, hc.1⟩
  rw [ht] at hc
  have hl := runesP_len (s.extract a b)
  have := (last_go s a b 0 hp _ (runesP (s.extract a b)) b (b - a) rfl (by omega) hc (fun _ h => h) (Nat.le_refl _)).2
  rw [Nat.add_zero, show a + (b - a) = b by omega] at this
  rw [this]
  unfold ofC
  rw [List.map_reverse]
  rfl
def blR (x : Nat × Nat × Nat) : Bool := blS (gS (x.1 : Nat))
theorem headR_all : ∀ (l : List (Nat × Nat × Nat)) (z : Nat), l.all blR = true → headR l z = z
  | [], _, _ => rfl
  | x :: l, z, h => by
    rw [List.all_cons, Bool.and_eq_true] at h
    rw [headR, if_pos (show blS (gS (x.1 : Nat)) = true from h.1), headR_all l z h.2]
theorem headR_split : ∀ (l : List (Nat × Nat × Nat)) (z : Nat), l.all blR = false → ∃ D x A, l = D ++ x :: A ∧ D.all blR = true ∧ blR x = false ∧ headR l z = x.2.1
  | [], _, h => by simp at h
  | x :: l, z, h => by
    cases hx : blR x with
    | false => exact ⟨[], x, l, rfl, rfl, hx, by rw [headR]; exact if_neg (by unfold blR at hx; rw [hx]; simp)⟩
    | true =>
      rw [List.all_cons, hx, Bool.true_and] at h
      obtain ⟨D, y, A, rfl, h1, h2, h3⟩ := headR_split l z h
      exact ⟨x :: D, y, A, rfl, by rw [List.all_cons, hx, h1]; rfl, h2, by rw [headR]; exact (if_pos hx).trans h3⟩
theorem lastR_more : ∀ (A D : List (Nat × Nat × Nat)) (p q : Nat), A.all blR = false → lastR (A ++ D) p = lastR A q
  | [], _, _, _, h => by simp at h
  | x :: A, D, p, q, h => by
    rw [List.cons_append, lastR, lastR]
    split
    · next hx =>
      refine lastR_more A D p q ?_
      rw [List.all_cons] at h
      have hx' : blR x = true := hx
      rwa [hx', Bool.true_and] at h
    · rfl
theorem contig_drop : ∀ (D : List (Nat × Nat × Nat)) (x : Nat × Nat × Nat) (A : List (Nat × Nat × Nat)) (p z : Nat), Contig p (D ++ x :: A) z → Contig x.2.1 (x :: A) z
  | [], x, A, p, z, ⟨h1, h2, h3⟩ => ⟨rfl, by omega, h3⟩
  | _ :: D, x, A, p, z, ⟨_, _, h3⟩ => contig_drop D x A _ z h3
theorem last_runes (s : ByteArray) (a b : Nat) (hab : a ≤ b) (hb : b ≤ s.size) : lastF s b (headF s (b - a) a b) b = if (runesP (s.extract a b)).all blR then b else a + lastR (runesP (s.extract a b)).reverse 0 := by
  have ht : (s.extract a b).size = b - a := by rw [ByteArray.size_extract]; omega
  rw [head_runes s a b hab hb]
  cases hall : (runesP (s.extract a b)).all blR with
  | true =>
    rw [headR_all _ _ hall, if_pos rfl, show a + (b - a) = b by omega]
    cases b with
    | zero => rfl
    | succ b => exact if_neg (Nat.lt_irrefl _)
  | false =>
    have hc := runesP_contig (s.extract a b)
    rw [ht] at hc
    have hl := runesP_len (s.extract a b)
    obtain ⟨D, x, A, e, h1, h2, h3⟩ := headR_split _ (b - a) hall
    have hm : ∀ y ∈ x :: A, y ∈ runesP (s.extract a b) := fun y hy => by rw [e]; exact List.mem_append_right _ hy
    have hp : PlaceAt (s.extract a b) x.2.1 := .inr ⟨x, hm x List.mem_cons_self, rfl⟩
    rw [e] at hc
    have hc2 := contig_drop D x A _ _ hc
    have hAl : (x :: A).length ≤ b := by
      rw [e, List.length_append, ht] at hl
      omega
    have := (last_go s a b x.2.1 hp _ (x :: A) b (b - a) rfl hAl hc2 hm (Nat.le_refl _)).1
    rw [show a + (b - a) = b by omega] at this
    rw [h3, this, if_neg (by simp), e, List.reverse_append, lastR_more _ _ 0 x.2.1 (by rw [List.all_reverse, List.all_cons, h2]; rfl)]
end Go.Proofs.YtdnkignhenkamaaGreatDoor

/- -/
namespace Go.Proofs.YtdnkignhenkamaaGreatDoor
open Go.RowKit
theorem headR_step {R : List (Nat × Nat × Nat)} {i z : Nat} {x : Nat × Nat × Nat} (h : R[i]? = some x) : headR (R.drop i) z = if blR x then headR (R.drop (i + 1)) z else x.2.1 := by
  obtain ⟨h1, h2⟩ := List.getElem?_eq_some_iff.1 h
  rw [List.drop_eq_getElem_cons h1, h2]; rfl
theorem lastR_step {R : List (Nat × Nat × Nat)} {k z : Nat} {x : Nat × Nat × Nat} (h : R[k]? = some x) : lastR (R.take (k + 1)).reverse z = if blR x then lastR (R.take k).reverse z else x.2.2 := by
  rw [List.take_add_one, h, Option.toList_some, List.reverse_append, List.reverse_singleton, List.singleton_append]; rfl
def trimA (s : ByteArray) (x y : Int) : Nat := if withinB s x y then x.toNat + headR (runesP (s.extract x.toNat y.toNat)) (y.toNat - x.toNat) else 0
def trimZ (s : ByteArray) (x y : Int) : Nat := if withinB s x y then (if (runesP (s.extract x.toNat y.toNat)).all blR then y.toNat else x.toNat + lastR (runesP (s.extract x.toNat y.toNat)).reverse 0) else 0
set_option maxRecDepth 100000 in
set_option maxHeartbeats 8000000 in
theorem dTrim_any (base pb : Nat) (s : ByteArray) (x y : Int) (rules : List RuleP) (rest : Bool) (w : World) (hB : BrkB w base pb sentsD rules rest) (hs : s.size ≤ 1000000) :
    Calls Tryz.prog 53 #[.pointer (some ⟨pb, 0, none⟩), .string s, .int .i64 x, .int .i64 y] w fun e w' => e = .returned (.tuple #[.int .i64 (trimA s x y : Nat), .int .i64 (trimZ s x y : Nat)]) ∧ Below w.heap.size w w' := by
  have HW := Lib.hid (dwithin_any s x y w hs)
  cases hw : withinB s x y with
  | false =>
    have HV1 : Hid (trimA s x y = 0) := Lib.hid (by unfold trimA; rw [hw]; rfl)
    have HV2 : Hid (trimZ s x y = 0) := Lib.hid (by unfold trimZ; rw [hw]; rfl)
    rw [hw] at HW
    clear hw
    go_enter Tryz.func53, Tryz.ntmps53
    go_wp2_with fail
    refine HW.out.mono ?_
    rintro e w1 ⟨rfl, hb1⟩
    go_wp2
    go_ret2
    exact ⟨by rw [HV1.out, HV2.out]; rfl, hb1⟩
  | true =>
  rw [hw] at HW
  have HV1 : Hid (trimA s x y = x.toNat + headR (runesP (s.extract x.toNat y.toNat)) (y.toNat - x.toNat)) := Lib.hid (by unfold trimA; rw [hw]; rfl)
  have HV2 : Hid (trimZ s x y = if (runesP (s.extract x.toNat y.toNat)).all blR then y.toNat else x.toNat + lastR (runesP (s.extract x.toNat y.toNat)).reverse 0) := Lib.hid (by unfold trimZ; rw [hw]; rfl)
  obtain ⟨a, b, rfl, rfl, hab, hbs⟩ := within_at hw
  rw [Int.toNat_natCast, Int.toNat_natCast] at HV1 HV2
  obtain ⟨p, xx, n, c, A, X, hb, hd, _⟩ := hB.ex
  have HM := Lib.hid (fun W => tMarks_any (s.extract a b) W (by rw [ByteArray.size_extract]; omega))
  have hC : (runesP (s.extract a b)).length ≤ 1000000 := by
    have := runesP_len (s.extract a b)
    rw [ByteArray.size_extract] at this
    omega
  have HBd := Lib.hid (fun z (h : z ∈ runesP (s.extract a b)) => (by
    have := runesP_bd z h
    rw [ByteArray.size_extract] at this
    omega : z.2.1 < z.2.2 ∧ a + z.2.2 ≤ b))
  generalize runesP (s.extract a b) = R at HV1 HV2 HM hC HBd
  have HG := Lib.hid (fun r W (h : Below w.heap.size w W) => vGet_any base p xx sentsD r W (hd.below h) sentsOk.1 sentsOk.2.1)
  have d0 := hb.cell 0
  simp only [List.getElem?_toArray, List.getElem?_cons_zero] at d0
  have hab' : (a : Int) ≤ (b : Int) := by omega
  have hbs' : (b : Int) ≤ (s.size : Int) := by omega
  clear hw hB hb hd
  go_enter Tryz.func53, Tryz.ntmps53
  go_wp2_with fail
  refine HW.out.mono ?_
  rintro e w1 ⟨rfl, hb1⟩
  clear HW
  go_wp2_with fail
  refine (HM.out w1).mono ?_
  rintro e w2 ⟨A2, m, c2, rfl, ho, hb2⟩
  obtain rfl : R.length = m := by have := ho.len; simpa using this
  have hb12 := below_two hb1 hb2
  have rd := ho.rd (by decide)
  clear HM ho hb1 hb2
  go_wp2_with fail
  go_loopw [11] (fun v wr => ∃ i : Nat, v = .int .i64 i ∧ i ≤ R.length ∧ Below w2.heap.size w2 wr ∧ Hid (headR R (b - a) = headR (R.drop i) (b - a)) ∧ Hid ((R.take i).all blR = true)) (fun v _ => R.length - (intOf v).toNat)
  case atStart => exact ⟨0, rfl, by omega, Below.refl _ _, Lib.hid rfl, Lib.hid rfl⟩
  case round =>
    obtain ⟨i, rfl, hi, hbr, HH, HA⟩ := hrel
    have hbw := below_two hb12 hbr
    by_cases hlt : i < R.length
    · obtain ⟨⟨r1, p1, q1⟩, Hx⟩ : ∃ x, Hid (R[i]? = some x) := ⟨_, Lib.hid (List.getElem?_eq_getElem hlt)⟩
      obtain ⟨bk, off, rfl, hc⟩ := rd (by intro e; rw [List.map_eq_nil_iff] at e; rw [e] at hlt; exact absurd hlt (by simp))
      have e2 := cell_keep (hc i 2 (encMk (r1, p1, q1)) (.int .i32 (r1 : Nat)) (by rw [List.getElem?_map, Hx.out]; rfl) rfl) hbr
      have cd := cell_keep d0 hbw
      have Hst := Lib.hid (headR_step (z := b - a) Hx.out)
      obtain ⟨cl, Hcl⟩ : ∃ cl, Hid (gS (r1 : Nat) = cl) := ⟨_, Lib.hid rfl⟩
      have HGr := Lib.hid (fun W (h : Below w.heap.size w W) => HG.out (r1 : Nat) W h)
      rw [show sentsD.get (r1 : Nat) = cl from Hcl.out] at HGr
      have HBl := Lib.hid (fun W => dblank_any cl W)
      obtain ⟨q, Hq⟩ : ∃ q, Hid (blS cl = q) := ⟨_, Lib.hid rfl⟩
      rw [Hq.out] at HBl
      have Hbl : Hid (blR (r1, p1, q1) = q) := Lib.hid (by unfold blR; rw [Hcl.out, Hq.out])
      go_wp2_with fail
      go_region_held3 (fun W => (W.cell? ⟨pb, 0, none⟩ = some (.pointer (some ⟨p, 0, none⟩)) ∧ W.cell? ⟨bk, off + i * 4 + 2, none⟩ = some (.int .i32 (r1 : Nat))) ∧ Below w.heap.size w W)
        (first | exact ⟨⟨cd, e2⟩, hbw⟩ | exact ⟨⟨cd, e2⟩, below_drewN hbw 1⟩)
        (first
          | (go_at_call 25; go_split_ands; refine (HGr.out _ (by assumption)).mono ?_; rintro e wb ⟨rfl, hbb⟩; subst hbb)
          | (go_at_call 86; go_split_ands; refine (HBl.out _).mono ?_; rintro e wc ⟨rfl, hbc⟩; subst hbc))
      have hbd := hbr.drew
      cases q with
      | true =>
        have HH2 : Hid (headR R (b - a) = headR (R.drop (i + 1)) (b - a)) := Lib.hid (by rw [HH.out, Hst.out, Hbl.out]; rfl)
        have HA2 : Hid ((R.take (i + 1)).all blR = true) := Lib.hid (by rw [List.take_add_one, Hx.out, Option.toList_some, List.all_append, HA.out, List.all_cons, Hbl.out]; rfl)
        clear e2 cd
        go_wp2
        go_roundw
        case rel => exact ⟨i + 1, by go_num, by omega, hbd, HH2, HA2⟩
        case measure => simp [intOf] <;> omega
      | false =>
        have hx12 := HBd.out _ (List.mem_of_getElem? Hx.out)
        simp only at hx12
        have HT1 : Hid (trimA s a b = a + p1) := Lib.hid (by rw [HV1.out, HH.out, Hst.out, Hbl.out]; rfl)
        have hall : R.all blR = false := by
          rw [List.all_eq_false]
          exact ⟨_, List.mem_of_getElem? Hx.out, by rw [Hbl.out]; simp⟩
        have HT2 : Hid (trimZ s a b = a + lastR R.reverse 0) := Lib.hid (by rw [HV2.out, hall]; rfl)
        have hne : ((i : Int) == (R.length : Int)) = false := by rw [beq_eq_false_iff_ne]; omega
        clear e2 cd hall
        go_wp2_with fail
        go_loopw [12] (fun v wz => ∃ k : Nat, v = .int .i64 k ∧ i ≤ k ∧ k < R.length ∧ Below w2.heap.size w2 wz ∧ Hid (lastR R.reverse 0 = lastR (R.take (k + 1)).reverse 0)) (fun v _ => (intOf v).toNat)
        case atStart => exact ⟨R.length - 1, congrArg (Value.int .i64) (by omega), by omega, by omega, hbd, Lib.hid (by rw [List.take_of_length_le (by omega)])⟩
        case round =>
          obtain ⟨k, rfl, hik, hkm, hbz, HL⟩ := hrel
          have hbwz := below_two hb12 hbz
          obtain ⟨⟨r2, p2, q2⟩, Hy⟩ : ∃ x, Hid (R[k]? = some x) := ⟨_, Lib.hid (List.getElem?_eq_getElem hkm)⟩
          have e2 := cell_keep (hc k 2 (encMk (r2, p2, q2)) (.int .i32 (r2 : Nat)) (by rw [List.getElem?_map, Hy.out]; rfl) rfl) hbz
          have cd := cell_keep d0 hbwz
          have Hst2 := Lib.hid (lastR_step (z := 0) Hy.out)
          obtain ⟨cl2, Hcl2⟩ : ∃ cl, Hid (gS (r2 : Nat) = cl) := ⟨_, Lib.hid rfl⟩
          have HGr2 := Lib.hid (fun W (h : Below w.heap.size w W) => HG.out (r2 : Nat) W h)
          rw [show sentsD.get (r2 : Nat) = cl2 from Hcl2.out] at HGr2
          have HBl2 := Lib.hid (fun W => dblank_any cl2 W)
          obtain ⟨qq, Hq2⟩ : ∃ q, Hid (blS cl2 = q) := ⟨_, Lib.hid rfl⟩
          rw [Hq2.out] at HBl2
          have Hbl2 : Hid (blR (r2, p2, q2) = qq) := Lib.hid (by unfold blR; rw [Hcl2.out, Hq2.out])
          go_wp2_with fail
          go_region_held3 (fun W => (W.cell? ⟨pb, 0, none⟩ = some (.pointer (some ⟨p, 0, none⟩)) ∧ W.cell? ⟨bk, off + k * 4 + 2, none⟩ = some (.int .i32 (r2 : Nat))) ∧ Below w.heap.size w W)
            (first | exact ⟨⟨cd, e2⟩, hbwz⟩ | exact ⟨⟨cd, e2⟩, below_drewN hbwz 1⟩)
            (first
              | (go_at_call 25; go_split_ands; refine (HGr2.out _ (by assumption)).mono ?_; rintro e wb ⟨rfl, hbb⟩; subst hbb)
              | (go_at_call 86; go_split_ands; refine (HBl2.out _).mono ?_; rintro e wc ⟨rfl, hbc⟩; subst hbc))
          have hbd2 := hbz.drew
          cases qq with
          | true =>
            have hki : i < k := by
              rcases Nat.lt_or_ge i k with h | h
              · exact h
              · exfalso
                obtain rfl : i = k := by omega
                have h1 := Hx.out
                rw [Hy.out] at h1
                injection h1 with h1
                have h2 := Hbl.out
                rw [← h1, Hbl2.out] at h2
                cases h2
            obtain ⟨j, hj⟩ : ∃ j, k = j + 1 := ⟨k - 1, by omega⟩
            have HL2 : Hid (lastR R.reverse 0 = lastR (R.take (j + 1)).reverse 0) := Lib.hid (by rw [HL.out, Hst2.out, Hbl2.out, hj]; rfl)
            have e4 : (k : Int) - 1 = (j : Int) := by omega
            have e5 : IntKind.i64.wrap ((k : Int) - 1) = (j : Int) := by rw [e4]; exact IntWalk.i64_in _ (by omega)
            have hij : i ≤ j := by omega
            have hjm : j < R.length := by omega
            have HJ := Lib.hid hj
            clear hj e2 cd
            go_wp2
            go_roundw
            case rel => exact ⟨j, by first | rfl | (rw [e4]) | (have := HJ.out; go_num), hij, hjm, hbd2, HL2⟩
            case measure => (have := HJ.out; simp [intOf] <;> omega)
          | false =>
            have hy12 := HBd.out _ (List.mem_of_getElem? Hy.out)
            simp only at hy12
            have HT3 : Hid (trimZ s a b = a + q2) := Lib.hid (by rw [HT2.out, HL.out, Hst2.out, Hbl2.out]; rfl)
            have ei := cell_keep (hc i 0 (encMk (r1, p1, q1)) (.int .i64 (p1 : Nat)) (by rw [List.getElem?_map, Hx.out]; rfl) rfl) hbz
            have ek := cell_keep (hc k 0 (encMk (r2, p2, q2)) (.int .i64 (p2 : Nat)) (by rw [List.getElem?_map, Hy.out]; rfl) rfl) hbz
            have ew := cell_keep (hc k 1 (encMk (r2, p2, q2)) (.int .i64 ((q2 : Int) - (p2 : Int))) (by rw [List.getElem?_map, Hy.out]; rfl) rfl) hbz
            simp only [Nat.add_zero] at ei ek
            have f1 : IntKind.i64.wrap ((a : Int) + (p1 : Int)) = (a : Int) + (p1 : Int) := IntWalk.i64_in _ (by omega)
            have f2 : IntKind.i64.wrap ((a : Int) + (p2 : Int)) = (a : Int) + (p2 : Int) := IntWalk.i64_in _ (by omega)
            have f3 : IntKind.i64.wrap ((a : Int) + (p2 : Int) + ((q2 : Int) - (p2 : Int))) = (a : Int) + (p2 : Int) + ((q2 : Int) - (p2 : Int)) := IntWalk.i64_in _ (by omega)
            clear e2 cd
            go_wp2_with fail
            go_quiet (fail)
            go_wp2
            go_ret2
            have f4 : (a : Int) + (p2 : Int) + ((q2 : Int) - (p2 : Int)) = ((a + q2 : Nat) : Int) := by omega
            exact ⟨by rw [HT1.out, HT3.out, ← f4]; rfl, below_drewN (below_drewN hbwz 1) _⟩
    · obtain rfl : i = R.length := by omega
      have hall : R.all blR = true := by rw [← HA.out, List.take_length]
      have HT1 : Hid (trimA s a b = b) := Lib.hid (by
        rw [HV1.out, HH.out, List.drop_length]
        show a + (b - a) = b
        omega)
      have HT2 : Hid (trimZ s a b = b) := Lib.hid (by rw [HV2.out, hall]; rfl)
      have hd : decide (R.length < R.length) = false := by simp
      clear hlt hall
      go_wp2_with fail
      go_quiet (fail)
      go_wp2
      go_ret2
      exact ⟨by rw [HT1.out, HT2.out]; rfl, below_drewN hbw _⟩
end Go.Proofs.YtdnkignhenkamaaGreatDoor

/- -/
namespace Go.Proofs.YtdnkignhenkamaaGreatDoor
open Go.RowKit
def placeL (L : List Nat) (x : Int) (e : Nat) : Nat := if x < 0 then 0 else L.getD x.toNat e
set_option maxRecDepth 100000 in
set_option maxHeartbeats 2000000 in
theorem bPlace_any (A : Option Addr) (n c : Nat) (L : List Nat) (x : Int) (e : Nat) (w : World) (hA : Rd w 1 A (L.map encN)) (hl : L.length = n) (_hn : n ≤ 4000000) :
    Calls Tryz.prog 23 #[.slice A n c, .int .i64 x, .int .i64 (e : Nat)] w fun e' w' => e' = .returned (.int .i64 (placeL L x e : Nat)) ∧ w = w' := by
  have Hn := Lib.hid hl
  clear hl
  by_cases h0 : x < 0
  · have HV : Hid (placeL L x e = 0) := Lib.hid (if_pos h0)
    go_enter Tryz.func23, Tryz.ntmps23
    go_wp2
    go_ret
    exact ⟨by rw [HV.out]; rfl, rfl⟩
  · obtain ⟨k, rfl⟩ : ∃ k : Nat, x = k := ⟨x.toNat, by omega⟩
    have HV : Hid (placeL L k e = L.getD k e) := Lib.hid (by unfold placeL; rw [if_neg h0]; rfl)
    clear h0
    by_cases hlt : k < n
    · obtain ⟨y, Hy⟩ : ∃ y, Hid (L[k]? = some y) := ⟨_, Lib.hid (List.getElem?_eq_getElem (by have := Hn.out; omega))⟩
      obtain ⟨b, off, rfl, cy⟩ := hA.atP' Hy.out
      have HV2 : Hid (placeL L k e = y) := Lib.hid (by rw [HV.out, List.getD_eq_getElem?_getD, Hy.out]; rfl)
      go_enter Tryz.func23, Tryz.ntmps23
      go_wp2
      go_ret
      exact ⟨by rw [HV2.out]; rfl, rfl⟩
    · have HV2 : Hid (placeL L k e = e) := Lib.hid (by rw [HV.out, List.getD_eq_getElem?_getD, List.getElem?_eq_none (by have := Hn.out; omega)]; rfl)
      go_enter Tryz.func23, Tryz.ntmps23
      go_wp2
      go_ret
      exact ⟨by rw [HV2.out]; rfl, rfl⟩
end Go.Proofs.YtdnkignhenkamaaGreatDoor

/- -/
namespace Go.Proofs.YtdnkignhenkamaaGreatDoor
open Go.RowKit Go.Shelf
theorem KT.setX {t : TypeId} {X : Nat → Prop} {A B : World} (h : KT t X A B) {b : Nat} (hx : X b) (i : Nat) (u : Value) : KT t X A (B.setCell ⟨b, i, none⟩ u) :=
  ⟨by simpa [World.setCell] using h.1, fun k cur fz hk0 hk => (Below.heap_setCell B ⟨b, i, none⟩ u k (fun e => by subst e; exact hk0 hx)).trans (h.2 k cur fz hk0 hk)⟩
structure PcF (w : World) (stop : Int) (A : Option Addr) (c : Nat) (L : List Nat) (K g5 g8 be bb : Nat) (s : ByteArray) (fb : Value) (V : World) : Prop where
  b3 : Blk V w.heap.size 3 #[.int .i64 stop]
  b4 : Blk V (w.heap.size + 1) 4 #[.bool false]
  b5 : Blk V g5 23 #[.slice A L.length c]
  b6 : Blk V (g5 + 1) 3 #[.int .i64 (K : Nat)]
  b8 : Blk V g8 31 #[fb]
  rd : Rd V 1 A (L.map encN)
  ce : V.cell? ⟨be, 0, none⟩ = some (.string s)
  cb : V.cell? ⟨bb, 0, none⟩ = some (.string s)
  hb : Below w.heap.size w V
theorem PcF.below {w V V' : World} {stop : Int} {A : Option Addr} {c : Nat} {L : List Nat} {K g5 g8 be bb : Nat} {s : ByteArray} {fb : Value} (h : PcF w stop A c L K g5 g8 be bb s fb V) (hb : Below V.heap.size V V') : PcF w stop A c L K g5 g8 be bb s fb V' :=
  ⟨h.b3.below hb, h.b4.below hb, h.b5.below hb, h.b6.below hb, h.b8.below hb, h.rd.below hb, cell_keep h.ce hb, cell_keep h.cb hb, below_two h.hb hb⟩
theorem prefix_nextP {α : Type} {R pre : List α} {x : α} (h : pre ++ [x] <+: R) : R[pre.length]? = some x := by
  obtain ⟨r, rfl⟩ := h
  simp
variable {F : Fence} {n : Nat} {P : Program}
end Go.Proofs.YtdnkignhenkamaaGreatDoor

/- -/
namespace Go.Proofs.YtdnkignhenkamaaGreatDoor
open Go.RowKit Go.Shelf
attribute [local go_sem] Oper.semAt_some
theorem res_firstS (w : World) (b : Nat) (tmps : Array Value) (ht : tmps.getD 4 undef = .pointer (some ⟨b, 0, none⟩)) {v : ByteArray} (hc : w.cell? ⟨b, 0, none⟩ = some (.string v)) : (results Tryz.f55 tmps).run Tryz.prog w = .ok (.string v) w := by
  have ht' : tmps[4]?.getD undef = .pointer (some ⟨b, 0, none⟩) := by simpa [Array.getD_eq_getD_getElem?] using ht
  simp [results, Tryz.results55, go_sem, ht', hc]
def firstS (s : ByteArray) (L : List Nat) (n : Int) : ByteArray := s.extract 0 (placeL L n s.size)
def FiM (s : ByteArray) (n : Int) (w : World) (pre : List (Nat × Nat)) (W : World) : Prop :=
  ∃ (q : Nat × Nat) (pre0 : List (Nat × Nat)), pre = pre0 ++ [q] ∧ (pre0.length : Int) + 1 = n ∧ Blk W (w.heap.size + 1 + 1) 9 #[.string (s.extract 0 (clP s q).2)] ∧ Below w.heap.size w W
def FiI (s : ByteArray) (n : Int) (w : World) (pre : List (Nat × Nat)) (W : World) : Prop :=
  (pre.length : Int) < n ∧ Blk W w.heap.size 9 #[.string s] ∧ Blk W (w.heap.size + 1) 3 #[.int .i64 (n - pre.length)] ∧ Blk W (w.heap.size + 1 + 1) 9 #[.string ⟨#[]⟩] ∧ Below w.heap.size w W
theorem boundsS_head (s : ByteArray) : (boundsS s).getD 0 s.size = 0 := by
  unfold boundsS boundsX
  split
  · next h => simpa using h
  · next h =>
    obtain ⟨k, hk1, hk2⟩ := runesGo_step (s := s) (f := s.size) (a := 0) (by omega) (by omega)
    unfold runesP
    rw [hk2]
    simp [List.range_succ_eq_map, pickG]
theorem firstS_low (s : ByteArray) {n : Int} (h : n < 1) : firstS s (boundsS s) n = ⟨#[]⟩ := by
  unfold firstS
  have : placeL (boundsS s) n s.size = 0 := by
    unfold placeL
    by_cases h0 : n < 0
    · rw [if_pos h0]
    · obtain rfl : n = 0 := by omega
      rw [if_neg h0]
      exact boundsS_head s
  rw [this]; simp; rfl
theorem firstS_at (s : ByteArray) (k : Nat) (y : Nat) (h : (boundsS s)[k + 1]? = some y) : firstS s (boundsS s) ((k : Int) + 1) = s.extract 0 y := by
  unfold firstS placeL
  rw [if_neg (by omega), show ((k : Int) + 1).toNat = k + 1 by omega, List.getD_eq_getElem?_getD, h]; rfl
theorem firstS_over (s : ByteArray) {n : Int} (h0 : 0 ≤ n) (h : ((boundsS s).length : Int) ≤ n) : firstS s (boundsS s) n = s := by
  unfold firstS placeL
  rw [if_neg (by omega), List.getD_eq_getElem?_getD, List.getElem?_eq_none (by omega)]
  simp
set_option maxRecDepth 100000 in
set_option maxHeartbeats 4000000 in
theorem nFirst_any (s : ByteArray) (n : Int) (w : World) (hE : Env w) (hs : s.size ≤ 1000000) (hn : n < 9223372036854775808) : Calls Tryz.prog 55 #[.string s, .int .i64 n] w fun e w' => e = .returned (.string (firstS s (boundsS s) n)) ∧ Below w.heap.size w w' := by
  have hA1 : Below w.heap.size w (w.alloc (.cells #[.string s] 9)) := (Below.refl _ _).alloc (Nat.le_refl _) _
  have hA2 := hA1.alloc hA1.size (.cells #[.int .i64 n] 3)
  have hA4 := hA2.alloc hA2.size (.cells #[.string ⟨#[]⟩] 9)
  have B3 : Blk (((w.alloc (.cells #[.string s] 9)).alloc (.cells #[.int .i64 n] 3)).alloc (.cells #[.string ⟨#[]⟩] 9)) w.heap.size 9 #[.string s] := (((Blk.new w 9 #[.string s]).alloc _).alloc _)
  have B4 : Blk (((w.alloc (.cells #[.string s] 9)).alloc (.cells #[.int .i64 n] 3)).alloc (.cells #[.string ⟨#[]⟩] 9)) (w.heap.size + 1) 3 #[.int .i64 n] := by
    have := (Blk.new (w.alloc (.cells #[.string s] 9)) 3 #[.int .i64 n]).alloc (.cells #[.string ⟨#[]⟩] 9)
    rw [World.size_alloc] at this
    exact this
  have B5 : Blk (((w.alloc (.cells #[.string s] 9)).alloc (.cells #[.int .i64 n] 3)).alloc (.cells #[.string ⟨#[]⟩] 9)) (w.heap.size + 1 + 1) 9 #[.string ⟨#[]⟩] := by
    have := Blk.new ((w.alloc (.cells #[.string s] 9)).alloc (.cells #[.int .i64 n] 3)) 9 #[.string ⟨#[]⟩]
    rw [World.size_alloc, World.size_alloc] at this
    exact this
  clear hA1 hA2
  refine (callsIn_wide (n := 6)).1 ?_
  refine callsIn_of_wp_marks Tryz.func55 rfl trivial ?_ rfl
  simp only [Tryz.ntmps55, List.size_toArray, List.length_cons, List.length_nil, Nat.reduceAdd, Nat.reduceSub, Array.replicate_succ, Array.replicate_zero, List.push_toArray, List.append_toArray, List.nil_append, List.cons_append]
  refine wpIn_wide.2 ?_
  have d4 := B4.cell 0
  have d3 := B3.cell 0
  simp only [List.getElem?_toArray, List.getElem?_cons_zero] at d4 d3
  by_cases h1 : n < 1
  · have HV := Lib.hid (firstS_low s h1)
    have f4 := B5.frozen 0
    have c7 := (B5.set_ 0 (.string ⟨#[]⟩)).cell 0
    have d5 := B5.cell 0
    simp only [List.getElem?_toArray, List.getElem?_cons_zero, List.setIfInBounds_toArray, List.set_cons_zero] at c7 d5
    go_wp2_with fail
    exact ⟨_, res_firstS _ (w.heap.size + 1 + 1) _ rfl d5, by rw [HV.out], hA4⟩
  have HHi := Lib.hid (fun (h : ((boundsS s).length : Int) ≤ n) => firstS_over s (by omega) h)
  have HAt := Lib.hid (fun k y (h : (boundsS s)[k + 1]? = some y) => firstS_at s k y h)
  go_wp2_with fail
  generalize (((w.alloc (.cells #[.string s] 9)).alloc (.cells #[.int .i64 n] 3)).alloc (.cells #[.string ⟨#[]⟩] 9)) = w0 at hA4 B3 B4 B5 d3 d4 ⊢
  refine (nEach_any s w0).mono ?_
  rintro e w1 ⟨bs, rfl, hc, hb⟩
  have hW1 := below_two hA4 hb
  have C3 := B3.below hb
  have C4 := B4.below hb
  have C5 := B5.below hb
  have hz6 := C5.lt
  have hE1 := hE.below hW1
  clear hA4 hb B3 B4 B5 hE d3 d4
  go_wp2_with fail
  refine (wpIn_wide (n := 6)).1 ?_
  refine rngH rfl (by decide) (gf := 78) (lb := #[.pointer (some ⟨bs, 0, none⟩)]) rfl trivial (enters_of Tryz.func78 (by kernel_rfl) rfl)
    (nEach_seq 5 (by decide) w1 s bs (fun b => b = w.heap.size + 1) (by rintro b rfl; omega) hE1 hs hc) (fun h k => h.trans k) (fun W l o o' _ h hc _ => KT.put W l o o' h hc) (Below.refl _ _) (fun _ => rfl) (fun W => KT.refl _ _ W)
    (FiI s n w)
    (fun cc pre W => cc = .ret ∧ FiM s n w pre W)
    (fun pre A B row hs hg hr => by
      obtain ⟨h1, h2, h3, h4, h5⟩ := hs
      exact ⟨h1, h2.kept hg (fun r e => (hr r e).2), h3.kept hg (fun r e => (hr r e).2), h4.kept hg (fun r e => (hr r e).2), ownFrom_below (β := Unit) (Nat.le_refl w.heap.size) (by omega : w.heap.size ≤ w1.heap.size) () A B row h5 hg hr⟩)
    (fun cc pre A B row hs hg hr => by
      obtain ⟨h1, q, pre0, h2, h3, h4, h5⟩ := hs
      exact ⟨h1, q, pre0, h2, h3, h4.kept hg (fun r e => (hr r e).2), ownFrom_below (β := Unit) (Nat.le_refl w.heap.size) (by omega : w.heap.size ≤ w1.heap.size) () A B row h5 hg hr⟩)
    ⟨by simp only [List.length_nil]; omega, C3, by simpa using C4, C5, hW1⟩
    (fun T (x : Nat × Nat) => ((T.setIfInBounds 11 (.int .i64 ((clP s x).1 : Nat))).setIfInBounds 12 (.int .i64 ((clP s x).2 : Nat))).setIfInBounds 6 (.int .i64 ((clP s x).2 : Nat))) ?assign ?body ?done ?stop
  case assign =>
    intro l2 x V K hK
    simp only [List.setIfInBounds_toArray, List.set_cons_succ, List.set_cons_zero] at hK
    simp only [encCl, encP2]
    gi_wp2
    exact hK
  case body =>
    rintro l2 pre y W hl2 _ ⟨hno, D3, D4, D5, hbW⟩ hlen
    simp only [List.setIfInBounds_toArray, List.set_cons_succ, List.set_cons_zero]
    have hle := clP_le s y
    obtain ⟨⟨a, b⟩, hab⟩ : ∃ z, clP s y = z := ⟨_, rfl⟩
    rw [hab] at hle ⊢
    simp only at hle ⊢
    have c3 := D3.cell 0
    have c4 := D4.cell 0
    have c5 := D5.cell 0
    have f4 := D4.frozen 0
    have f5 := D5.frozen 0
    simp only [List.getElem?_toArray, List.getElem?_cons_zero] at c3 c4 c5
    have hz4 : w.heap.size + 1 + 1 < w1.heap.size := hz6
    have HAB := Lib.hid hab
    have hbs : (b : Int) ≤ (s.size : Int) := by omega
    obtain ⟨m, hm⟩ : ∃ m : Nat, n - pre.length = ((m + 1 : Nat) : Int) := ⟨(n - pre.length).toNat - 1, by omega⟩
    obtain ⟨j, hj⟩ : ∃ j, m + 1 = j := ⟨_, rfl⟩
    rw [hm, hj] at c4 D4
    have e4 : (j : Int) - 1 = (m : Int) := by omega
    have e5 : IntKind.i64.wrap ((j : Int) - 1) = (m : Int) := by rw [e4]; exact IntWalk.i64_in _ (by omega)
    have e6 : IntKind.i64.wrap (m : Int) = (m : Int) := IntWalk.i64_in _ (by omega)
    have Hm := Lib.hid hm
    have Hj := Lib.hid hj
    clear hm hj hab
    by_cases hm0 : m = 0
    · have hq : ((m : Int) == 0) = true := by rw [hm0]; rfl
      have HM0 := Lib.hid hm0
      clear hm0
      gi_wp2
      refine ⟨((KeepsOthers.setCell _ _ _).trans (KeepsOthers.setCell _ _ _)).from _, rfl, y, pre, rfl, by have := Hm.out; have := HM0.out; omega, ?_, ?_⟩
      · rw [HAB.out]; exact (blk_farG (p := ⟨w.heap.size + 1, 0, none⟩) (u := .int .i64 (m : Nat)) D5 (by simp)).set_ 0 (.string (s.extract 0 b))
      · exact ((hbW.setCell (p := ⟨w.heap.size + 1, 0, none⟩) (by simp only; omega) _).setCell (p := ⟨w.heap.size + 1 + 1, 0, none⟩) (by simp only; omega) _)
    · have hq : ((m : Int) == 0) = false := by rw [beq_eq_false_iff_ne]; omega
      have HM0 := Lib.hid hm0
      clear hm0
      gi_wp2
      refine ⟨(KeepsOthers.setCell _ _ _).from _, (KT.refl _ (fun b => b = w.heap.size + 1) _).setX rfl 0 _, ?_, ?_, ?_, ?_, ?_⟩
      · have := Hm.out; have := HM0.out; rw [List.length_append, List.length_singleton]; omega
      · exact blk_farG D3 (by simp)
      · exact cast (congrArg (fun z => Blk _ _ _ #[Value.int .i64 z]) (by have := Hm.out; simp only [List.length_append, List.length_singleton]; omega : (m : Int) = n - ((pre ++ [y]).length : Nat))) (D4.set_ 0 (.int .i64 (m : Nat)))
      · exact blk_farG D5 (by simp)
      · exact hbW.setCell (p := ⟨w.heap.size + 1, 0, none⟩) (by simp only; omega) _
  case done =>
    rintro D ys V hD hys ⟨hno, D3, D4, D5, hbV⟩ hK
    subst hys
    have HV : Hid (firstS s (boundsS s) n = s) := Lib.hid (HHi.out (by rw [piecesF_len] at hno; omega))
    have c3 := D3.cell 0
    have c5 := D5.cell 0
    have f5 := D5.frozen 0
    simp only [List.getElem?_toArray, List.getElem?_cons_zero] at c3 c5
    have hz4 : w.heap.size + 1 + 1 < w1.heap.size := hz6
    clear D4
    go_wp2
    have E5 := D5.set_ 0 (.string s)
    have hK3 := (Below.heap_setCell V ⟨w.heap.size + 1 + 1, 0, none⟩ (.string s) D (by simp only; omega)).trans hK
    refine ⟨by simp, .inl ⟨_, _, rfl, run_takeDeferred hK3, ?_⟩⟩
    have F5 := blk_putG (D := D) (o := .deferred none) E5 (by omega)
    refine ⟨_, res_firstS _ _ _ rfl (F5.cell 0), by rw [HV.out] <;> rfl, ?_⟩
    exact (hbV.setCell (p := ⟨w.heap.size + 1 + 1, 0, none⟩) (by simp only; omega) _).trans (belowK_b (w := w) (Nat.le_refl _) _ D _ _ (by omega) hK3 rfl rfl)
  case stop =>
    rintro D cc pre W hD hp ⟨rfl, q, pre0, rfl, h3, h4, h5⟩ hK
    have hat := prefix_nextP hp
    have hq := pieces_clS (List.mem_of_getElem? hat)
    have hk : pre0.length < (piecesF (boundsS s)).length := (List.getElem?_eq_some_iff.1 hat).1
    rw [piecesF_len] at hk
    obtain ⟨x, hx⟩ : ∃ x, (boundsS s)[pre0.length]? = some x := ⟨_, List.getElem?_eq_getElem (by omega)⟩
    obtain ⟨z, hz⟩ : ∃ z, (boundsS s)[pre0.length + 1]? = some z := ⟨_, List.getElem?_eq_getElem (by omega)⟩
    have h2 := piecesF_at _ _ x z hx hz
    rw [hat] at h2
    injection h2 with h2
    have HV : Hid (firstS s (boundsS s) n = s.extract 0 (clP s q).2) := Lib.hid (by rw [← h3, HAt.out pre0.length z hz, hq, h2])
    have c5 := h4.cell 0
    simp only [List.getElem?_toArray, List.getElem?_cons_zero] at c5
    have hz4 : w.heap.size + 1 + 1 < w1.heap.size := hz6
    clear hat hx hz h2 hq
    gi_wp2
    refine ⟨by simp, .inl ⟨_, _, rfl, run_takeDeferred hK, ?_⟩⟩
    have F5 := blk_putG (D := D) (o := .deferred none) h4 (by omega)
    refine ⟨_, res_firstS _ _ _ rfl (F5.cell 0), by rw [HV.out] <;> rfl, ?_⟩
    exact h5.trans (belowK_b (w := w) (Nat.le_refl _) _ D _ _ (by omega) hK rfl rfl)
end Go.Proofs.YtdnkignhenkamaaGreatDoor

/- -/
namespace Go.Proofs.YtdnkignhenkamaaGreatDoor
open Go.RowKit
theorem wf_i64 {n : Int} (h : (Lit.int .i64 n).wf = true) : n < 9223372036854775808 := by
  unfold Lit.wf at h
  rw [Bool.and_eq_true, decide_eq_true_iff, decide_eq_true_iff] at h
  have : IntKind.i64.max = 9223372036854775807 := by decide
  omega
set_option maxHeartbeats 1000000 in
theorem nTrimZ_any (s : ByteArray) (x y : Int) (w : World) (hE : Env w) (hs : s.size ≤ 1000000) :
    Calls Tryz.prog 52 #[.string s, .int .i64 x, .int .i64 y] w fun e w' => e = .returned (.tuple #[.int .i64 (trimA s x y : Nat), .int .i64 (trimZ s x y : Nat)]) ∧ Below w.heap.size w w' := by
  cases hw : withinB s x y with
  | false =>
    have HW := nwithin_any s x y w hE.tabs hs
    have HV1 : Hid (trimA s x y = 0) := Lib.hid (by unfold trimA; rw [hw]; rfl)
    have HV2 : Hid (trimZ s x y = 0) := Lib.hid (by unfold trimZ; rw [hw]; rfl)
    rw [hw] at HW
    replace HW := Lib.hid HW
    clear hw
    go_enter Tryz.func52, Tryz.ntmps52
    go_wp2_with fail
    refine HW.out.mono ?_
    rintro e w1 ⟨rfl, hb1⟩
    go_wp2
    go_ret2
    exact ⟨by rw [HV1.out, HV2.out]; rfl, hb1⟩
  | true =>
    have HV1 : trimA s x y = x.toNat + headR (runesP (s.extract x.toNat y.toNat)) (y.toNat - x.toNat) := by unfold trimA; rw [hw]; rfl
    have HV2 : trimZ s x y = if (runesP (s.extract x.toNat y.toNat)).all blR then y.toNat else x.toNat + lastR (runesP (s.extract x.toNat y.toNat)).reverse 0 := by unfold trimZ; rw [hw]; rfl
    obtain ⟨a, b, rfl, rfl, hab, hbs⟩ := within_at hw
    rw [Int.toNat_natCast, Int.toNat_natCast] at HV1 HV2
    rw [HV1, HV2, ← head_runes s a b hab hbs, ← last_runes s a b hab hbs]
    exact nTrim_any s a b w hE hs hab hbs hw
set_option maxHeartbeats 1000000 in
theorem nKindZ_any (s : ByteArray) (x y : Int) (w : World) (hE : Env w) (hs : s.size ≤ 1000000) :
    Calls Tryz.prog 47 #[.string s, .int .i64 x, .int .i64 y] w fun e w' => e = .returned (.int .i64 (dKindV s x y : Nat)) ∧ Below w.heap.size w w' := by
  cases hw : withinB s x y with
  | false =>
    have HW := nwithin_any s x y w hE.tabs hs
    have HV1 : Hid (dKindV s x y = 0) := Lib.hid (by unfold dKindV; rw [hw]; rfl)
    rw [hw] at HW
    replace HW := Lib.hid HW
    clear hw
    go_enter Tryz.func47, Tryz.ntmps47
    go_wp2_with fail
    refine HW.out.mono ?_
    rintro e w1 ⟨rfl, hb1⟩
    go_wp2
    go_ret
    exact ⟨by rw [HV1.out]; rfl, hb1⟩
  | true =>
    have HV1 : dKindV s x y = kindC (ofC sentsD (s.extract x.toNat y.toNat)).reverse := by unfold dKindV; rw [hw]; rfl
    obtain ⟨a, b, rfl, rfl, hab, hbs⟩ := within_at hw
    rw [Int.toNat_natCast, Int.toNat_natCast] at HV1
    rw [HV1, ← kind_runes s a b hab hbs]
    exact nKind_any s a b w hE hs hab hbs hw
set_option maxRecDepth 100000 in
set_option maxHeartbeats 16000000 in
theorem nSentUses_any (s : ByteArray) (x y n r : Int) (w : World) (hE : Env w) (hs : s.size ≤ 140737488355328) (hn : n < 9223372036854775808) :
    Calls Tryz.prog 12 #[.string s, .int .i64 x, .int .i64 y, .int .i64 n, .int .i32 r] w fun e w' => e = .returned (.bool true) ∧ Below w.heap.size w w' := by
  have HLv := Lib.hid (fun W (h : Env W) => nlive_any W h)
  by_cases h1 : 100 < s.size
  · have g1 : (100 : Int) < (s.size : Int) := by omega
    go_enter Tryz.func12, Tryz.ntmps12
    go_wp2_with fail
    refine (HLv.out _ hE).mono ?_
    rintro e w1 ⟨rfl, hb⟩
    go_wp2
    go_ret
    exact ⟨rfl, hb⟩
  have g1 : ¬ (100 : Int) < (s.size : Int) := by omega
  have hsz : s.size ≤ 100 := by omega
  have HN := Lib.hid (fun W => dNew_any W)
  have HB := Lib.hid (fun base pb W (h : BrkB W base pb sentsD rulesS false) => bBoundsS_any base pb s W h (by omega))
  have HT := Lib.hid (fun W (h : Env W) => nTrimZ_any s x y W h (by omega))
  have HTD := Lib.hid (fun base pb W (h : BrkB W base pb sentsD rulesS false) => dTrim_any base pb s x y rulesS false W h (by omega))
  have HC := Lib.hid (fun W (h : Env W) => nClass_any r W h)
  have HK := Lib.hid (fun W (h : Env W) => nKindZ_any s x y W h (by omega))
  have HKD := Lib.hid (fun base pb W (h : BrkB W base pb sentsD rulesS false) => dKind_any base pb s x y rulesS false W h (by omega))
  have HF := Lib.hid (fun W (h : Env W) => nFirst_any s n W h (by omega) hn)
  have HG := Lib.hid (fun base p x W (h : RfB W base p x sentsD.names sentsD.full) => vGet_any base p x sentsD r W h sentsOk.1 sentsOk.2.1)
  have hL := boundsS_len s
  have HRP := Lib.hid (fun A c W (hA : Rd W 1 A ((boundsS s).map encN)) => bPlace_any A (boundsS s).length c (boundsS s) n s.size W hA rfl (by omega))
  have hpl : placeL (boundsS s) n s.size ≤ s.size := by
    unfold placeL
    split
    · omega
    · rw [List.getD_eq_getElem?_getD]
      cases hq : (boundsS s)[n.toNat]? with
      | none => exact Nat.le_refl _
      | some z => exact boundsS_le s z (List.mem_of_getElem? hq)
  unfold firstS at HF
  generalize placeL (boundsS s) n s.size = P at HRP hpl HF
  generalize boundsS s = L at HB hL HRP
  generalize trimA s x y = tA at HT HTD
  generalize trimZ s x y = tZ at HT HTD
  generalize dKindV s x y = kV at HK HKD
  obtain ⟨k, Hk⟩ : ∃ k, Hid (gS r = k) := ⟨_, Lib.hid rfl⟩
  rw [Hk.out] at HC
  rw [show sentsD.get r = k from Hk.out] at HG
  have hP0 : (0 : Int) ≤ (P : Int) := by omega
  have hPs : (P : Int) ≤ (s.size : Int) := by omega
  clear h1 hs hn
  go_enter Tryz.func12, Tryz.ntmps12
  go_wp2_with fail
  refine (HN.out w).mono ?_
  rintro e w1 ⟨pb, rfl, hbk, hb1⟩
  go_wp2_with fail
  refine (HT.out w1 (hE.below hb1)).mono ?_
  rintro e w2 ⟨rfl, hb2⟩
  have hb12 := below_two hb1 hb2
  have hbk2 := hbk.below hb2
  go_wp2_with fail
  refine (HTD.out _ _ w2 hbk2).mono ?_
  rintro e w2' ⟨rfl, hb2'⟩
  have hb13 := below_two hb12 hb2'
  have hbk3 := hbk2.below hb2'
  clear hbk hbk2 hb1 hb2 hb12 hb2'
  go_wp2_with fail
  refine (HB.out _ _ w2' hbk3).mono ?_
  rintro e w3 ⟨A, m, c, rfl, ho, hb3⟩
  obtain rfl : L.length = m := by have := ho.len; simpa using this
  have hb14 := below_two hb13 hb3
  have rd4 := ho.rd (by decide)
  have hbk4 := hbk3.below hb3
  have HRP4 := Lib.hid (HRP.out A c w3 rd4)
  clear hbk3 hb13 hb3 ho
  go_wp2_with fail
  refine HRP4.out.mono ?_
  rintro e w4 ⟨rfl, rfl⟩
  have hBk := hbk4
  obtain ⟨p, xx, n1, c1, A1, X, hblk, hrf, _⟩ := hbk4.ex
  have c0 := hblk.cell 0
  simp only [List.getElem?_toArray, List.getElem?_cons_zero] at c0
  have HEw := Lib.hid (fun W (h : Below w3.heap.size w3 W) => hE.below (below_two hb14 h))
  have HRf := Lib.hid (fun W (h : Below w3.heap.size w3 W) => hrf.below h)
  have HBk := Lib.hid (fun W (h : Below w3.heap.size w3 W) => hBk.below h)
  have hB0 : Below w3.heap.size w3 w3 := Below.refl _ _
  clear HRP4 hbk4 hblk hrf rd4 hBk
  go_wp2_with fail
  go_region_held3 (fun W => W.cell? ⟨pb, 0, none⟩ = some (.pointer (some ⟨p, 0, none⟩)) ∧ Below w3.heap.size w3 W)
    (first | exact ⟨kf, Bf⟩ | exact ⟨ke, Be⟩ | exact ⟨kd, Bd⟩ | exact ⟨kc, Bc⟩ | exact ⟨ka, Ba⟩ | exact ⟨c0, Below.refl _ _⟩ | exact ⟨c0, below_drewN (Below.refl _ _) 1⟩)
    (first
      | (go_at_call 42; go_split_ands; refine (HC.out _ (HEw.out _ (by assumption))).mono ?_; rintro e wa ⟨rfl, hba⟩; have Ba := below_two (by assumption) hba; have ka := cell_keep c0 Ba)
      | (go_at_call 25; go_split_ands; refine (HG.out _ _ _ _ (HRf.out _ (by assumption))).mono ?_; rintro e wb ⟨rfl, hbb⟩; subst hbb)
      | (go_at_call 47; go_split_ands; refine (HK.out _ (HEw.out _ (by assumption))).mono ?_; rintro e wc ⟨rfl, hbc⟩; have Bc := below_two (by assumption) hbc; have kc := cell_keep c0 Bc)
      | (go_at_call 54; go_split_ands; refine (HKD.out _ _ _ (HBk.out _ (by assumption))).mono ?_; rintro e wd ⟨rfl, hbd⟩; have Bd := below_two (by assumption) hbd; have kd := cell_keep c0 Bd)
      | (go_at_call 55; go_split_ands; refine (HF.out _ (HEw.out _ (by assumption))).mono ?_; rintro e we ⟨rfl, hbe⟩; have Be := below_two (by assumption) hbe; have ke := cell_keep c0 Be)
      | (go_at_call 40; go_split_ands; refine (HLv.out _ (HEw.out _ (by assumption))).mono ?_; rintro e wf ⟨rfl, hbf⟩; have Bf := below_two (by assumption) hbf; have kf := cell_keep c0 Bf))
  go_wp2
  go_ret
  exact ⟨rfl, below_two hb14 Bf⟩
end Go.Proofs.YtdnkignhenkamaaGreatDoor

