/-
  Several texts in one, in their build order: Nf, Nh, Ni, Nj, Nq, Nr, Nl, Nk, Nu, Nw.
-/
import Derived.Deep.RegionHeld3
import Derived.BigRegion
import Derived.Deep.QuietTactic
import Derived.BigQuiet
import Derived.Test.YtdngkienloligaaGreatDoorYSentenceWholeNe
import Derived.Test.YtdngkienloligaaGreatDoorYSentenceWhole5a
import Derived.Test.YtdngkienloligaaGreatDoorYSentenceWhole1a
import Derived.Test.YtdngkienloligaaGreatDoorYSentenceWhole0a
import Derived.Test.YtdngkienloligaaGreatDoorYSentenceWholeGf
import Derived.Test.YtdngkienloligaaGreatDoorYSentenceWhole2a
/- -/
namespace Go.Proofs.YtdngkienloligaaGreatDoor
open Go.RowKit
def blK : Array Value := #[.bool false, .bool true, .bool true, .bool true, .bool true, .bool false, .bool false, .bool false, .bool false, .bool false, .bool false, .bool true, .bool false, .bool true]
theorem blK_at {c : Nat} (h : c < 14) : blK[c]? = some (.bool (clS c)) := by
  have : c = 0 ∨ c = 1 ∨ c = 2 ∨ c = 3 ∨ c = 4 ∨ c = 5 ∨ c = 6 ∨ c = 7 ∨ c = 8 ∨ c = 9 ∨ c = 10 ∨ c = 11 ∨ c = 12 ∨ c = 13 := by omega
  rcases this with rfl | rfl | rfl | rfl | rfl | rfl | rfl | rfl | rfl | rfl | rfl | rfl | rfl | rfl <;> rfl
set_option maxRecDepth 100000 in
set_option maxHeartbeats 8000000 in
theorem nKind_any (s : ByteArray) (a b : Nat) (w : World) (hE : Env w) (hs : s.size ≤ 1000000) (hab : a ≤ b) (hb : b ≤ s.size) (hw : withinB s a b = true) :
    Calls Tryz.prog 22 #[.string s, .int .i64 (a : Nat), .int .i64 (b : Nat)] w fun e w' => e = .returned (.int .i64 (kindF s b a b : Nat)) ∧ Below w.heap.size w w' := by
  have HW := nwithin_any s a b w hE.tabs hs
  rw [hw] at HW
  replace HW := Lib.hid HW
  have HD := Lib.hid (fun W (h : Env W) => ndb_any W h)
  have HB := Lib.hid (fun W => nblank_any W)
  have HLst := Lib.hid (fun x y W (h : Env W) (hx : x < y) (hy : y ≤ s.size) => eLast_any (s.extract x y) W h.tabs (by rw [ByteArray.size_extract]; omega) (by rw [ByteArray.size_extract]; omega))
  have HLb := Lib.hid (fun x y (hx : x < y) (hy : y ≤ s.size) => (by
    have := last_bd (s.extract x y) (by rw [ByteArray.size_extract]; omega)
    rw [ByteArray.size_extract] at this
    omega : 1 ≤ (Lib.decodeLastL (s.extract x y).data.toList).2 ∧ (Lib.decodeLastL (s.extract x y).data.toList).2 ≤ y - x))
  obtain ⟨l, Hl⟩ : ∃ l, Hid (kindF s b a b = l) := ⟨_, Lib.hid rfl⟩
  rw [Hl.out]
  clear hw
  go_enter Tryz.func22, Tryz.ntmps22
  go_wp2_with fail
  refine HW.out.mono ?_
  rintro e w1 ⟨rfl, hb1⟩
  go_wp2_with fail
  refine (HD.out w1 (hE.below hb1)).mono ?_
  rintro e w2 ⟨p, rfl, hd, hb2⟩
  have hb12 := below_two hb1 hb2
  go_wp2_with fail
  refine (HB.out w2).mono ?_
  rintro e w3 ⟨rfl, hb3⟩
  have hb13 := below_two hb12 hb3
  have hd3 := hd.below hb3
  unfold blA
  clear hd hb1 hb2 hb12 hb3 HW HD HB
  go_upto_block 0 with fail
  have hB4 := Blk.new w3 91 blK
  have hb4 : Below w.heap.size w (w3.alloc (.cells blK 91)) := hb13.alloc hb13.size _
  have hd4 : DbAt (w3.alloc (.cells blK 91)) p sentsD := hd3.below ((Below.refl _ _).alloc (Nat.le_refl _) _)
  have hE4 := hE.below hb4
  unfold blK at hB4 hb4 hd4 hE4
  generalize World.alloc w3 _ = W4 at hB4 hb4 hd4 hE4 ⊢
  generalize w3.heap.size = g at hB4 ⊢
  replace hB4 : Blk W4 g 91 blK := hB4
  clear hd3 hb13
  go_wp2_with fail
  go_loopw [2, 9, 10, 11] (fun v _ _ _ wr => ∃ y : Nat, v = .int .i64 y ∧ y ≤ b ∧ Below W4.heap.size W4 wr ∧ Hid (∃ f, y ≤ f ∧ l = kindF s f a y)) (fun v _ _ _ _ => (intOf v).toNat)
  case atStart => exact ⟨b, rfl, Nat.le_refl _, Below.refl _ _, Lib.hid ⟨b, Nat.le_refl _, Hl.out.symm⟩⟩
  case round =>
    obtain ⟨y, rfl, hyb, hbw, HF⟩ := hrel
    obtain ⟨f, hf, HN⟩ := HF.out
    by_cases hlt : a < y
    · obtain ⟨f, rfl⟩ : ∃ f', f = f' + 1 := ⟨f - 1, by omega⟩
      have hr := HLst.out a y wr (hE4.below hbw) hlt (by omega)
      have hsz := HLb.out a y hlt (by omega)
      have hstep : kindF s (f + 1) a y = if a < y then (if gS ((Lib.decodeLastL (s.extract a y).data.toList).1 : Nat) = 9 then 1 else if gS ((Lib.decodeLastL (s.extract a y).data.toList).1 : Nat) = 10 then 2 else if clS (gS ((Lib.decodeLastL (s.extract a y).data.toList).1 : Nat)) then kindF s f a (y - (Lib.decodeLastL (s.extract a y).data.toList).2) else 0) else 0 := rfl
      rw [if_pos hlt] at hstep
      rw [hstep] at HN
      clear hstep HF
      generalize Lib.decodeLastL (s.extract a y).data.toList = r at hr hsz HN
      obtain ⟨z, n⟩ := r
      have HR := Lib.hid hr
      clear hr
      simp only at HN hsz HR
      obtain ⟨hn1, hn2⟩ := hsz
      have HN := Lib.hid HN
      go_wp2_with fail
      refine HR.out.mono ?_
      rintro e wr1 ⟨rfl, hbr1⟩
      clear HR
      have hbw1 := below_two hbw hbr1
      have HG := Lib.hid (wGet_any p sentsD (z : Nat) wr1 (hd4.below hbw1) sentsOk.1 sentsOk.2.1)
      have hcl : gS (z : Nat) < 14 := gS_lt _
      generalize hc : gS (z : Nat) = c at HN hcl
      have HG : Hid (Calls Tryz.prog 80 #[.pointer (some ⟨p, 0, none⟩), .int .i32 (z : Nat)] wr1 fun e w' => e = .returned (.int .i64 (c : Nat)) ∧ Below wr1.heap.size wr1 w') := by rw [← hc]; exact HG
      clear hc
      go_wp2_with fail
      refine HG.out.mono ?_
      rintro e wr2 ⟨rfl, hbr2⟩
      clear HG
      have hbw2 := below_two hbw1 hbr2
      have cc := (hB4.below hbw2).cell c
      have cz := (hB4.below hbw2).frozen c
      rw [blK_at hcl] at cc
      cases q1 : ((c : Int) == 9) with
      | true =>
        have h1 : c = 9 := by have := eq_of_beq q1; omega
        have HV : Hid (l = 1) := Lib.hid (HN.out.trans (if_pos h1))
        clear HN h1 cc
        go_wp2
        go_ret
        exact ⟨by rw [HV.out]; rfl, below_two hb4 hbw2⟩
      | false =>
      have h1 : ¬ c = 9 := fun h => by subst h; simp at q1
      cases q2 : ((c : Int) == 10) with
      | true =>
        have h2 : c = 10 := by have := eq_of_beq q2; omega
        have HV : Hid (l = 2) := Lib.hid (HN.out.trans ((if_neg h1).trans (if_pos h2)))
        clear HN h1 h2 cc
        go_wp2
        go_ret
        exact ⟨by rw [HV.out]; rfl, below_two hb4 hbw2⟩
      | false =>
      have h2 : ¬ c = 10 := fun h => by subst h; simp at q2
      have HN1 := Lib.hid (HN.out.trans ((if_neg h1).trans (if_neg h2)))
      clear HN h1 h2
      cases q : clS c with
      | true =>
        rw [q] at cc HN1
        have HN2 : Hid (l = kindF s f a (y - n)) := Lib.hid (HN1.out.trans (if_pos rfl))
        clear HN1
        have e1 : ((y : Int) - (n : Int)) = ((y - n : Nat) : Int) := by omega
        have e2 : IntKind.i64.wrap ((y : Int) - (n : Int)) = ((y - n : Nat) : Int) := by rw [e1]; exact IntWalk.i64_in _ (by omega)
        go_wp2
        go_roundw
        case rel => exact ⟨y - n, by first | rfl | go_num, by omega, hbw2, Lib.hid ⟨f, by omega, HN2.out⟩⟩
        case measure => simp [intOf] <;> omega
      | false =>
        rw [q] at cc HN1
        have HV : Hid (l = 0) := Lib.hid (HN1.out.trans (if_neg (by simp)))
        clear HN1
        go_wp2
        go_ret
        exact ⟨by rw [HV.out]; rfl, below_two hb4 hbw2⟩
    · have HV : Hid (l = 0) := Lib.hid (by
        cases f with
        | zero => exact HN
        | succ f => exact HN.trans (if_neg hlt))
      clear HN HF
      go_wp2
      go_ret
      exact ⟨by rw [HV.out]; rfl, below_two hb4 hbw⟩
end Go.Proofs.YtdngkienloligaaGreatDoor

/- -/
namespace Go.Proofs.YtdngkienloligaaGreatDoor
open Go.RowKit
end Go.Proofs.YtdngkienloligaaGreatDoor

/- -/
namespace Go.Proofs.YtdngkienloligaaGreatDoor
open Go.RowKit
def kindC : List Nat → Nat
  | [] => 0
  | c :: r => if c = 9 then 1 else if c = 10 then 2 else if clS c then kindC r else 0
def dKindV (s : ByteArray) (x y : Int) : Nat := if withinB s x y then kindC (ofC sentsD (s.extract x.toNat y.toNat)).reverse else 0
theorem within_at {s : ByteArray} {x y : Int} (h : withinB s x y = true) : ∃ a b : Nat, x = a ∧ y = b ∧ a ≤ b ∧ b ≤ s.size := by
  unfold withinB at h
  rw [Bool.and_eq_true, Bool.and_eq_true, decide_eq_true_iff] at h
  obtain ⟨⟨h1, h2⟩, h3⟩ := h
  unfold isE at h2 h3
  by_cases k1 : x < 0 ∨ (s.size : Int) < x
  · rw [if_pos k1] at h2; cases h2
  by_cases k2 : y < 0 ∨ (s.size : Int) < y
  · rw [if_pos k2] at h3; cases h3
  exact ⟨x.toNat, y.toNat, by omega, by omega, by omega, by omega⟩
end Go.Proofs.YtdngkienloligaaGreatDoor

/- -/
namespace Go.Proofs.YtdngkienloligaaGreatDoor
open Go.RowKit
def lastR : List (Nat × Nat × Nat) → Nat → Nat
  | [], p => p
  | x :: l, p => if blS (gS (x.1 : Nat)) then lastR l p else x.2.2
theorem last_at (t : ByteArray) {x : Nat × Nat × Nat} (hx : x ∈ runesP t) {p : Nat} (hp : p ≤ x.2.1) (hpl : PlaceAt t p) : Lib.decodeLastL (t.extract p x.2.2).data.toList = (x.1, x.2.2 - x.2.1) := by
  obtain ⟨h1, h2, h3⟩ := place_next hx
  obtain ⟨P, Q, e, hP, hQ⟩ := runes_sub t (a := p) (b := x.2.2) (by omega) hpl h3
  have hu : (t.extract p x.2.2).size = x.2.2 - p := by rw [ByteArray.size_extract]; omega
  rw [e] at hx
  have hm : x ∈ (runesP (t.extract p x.2.2)).map (shR p) := by
    rcases List.mem_append.1 hx with h | h
    · rcases List.mem_append.1 h with h | h
      · have := hP x h; omega
      · exact h
    · have := hQ x h; omega
  obtain ⟨y, hy, rfl⟩ := List.mem_map.1 hm
  have h4 := runesP_bd y hy
  rw [last_rune _ hy (by simp only [shR] at hu ⊢; omega)]
  simp only [shR]
  congr 1
  omega
theorem extract_two (s : ByteArray) (a b p q : Nat) (hq : a + q ≤ b) : s.extract (a + p) (a + q) = (s.extract a b).extract p q := by
  rw [ByteArray.extract_extract]
  congr 1
  omega
theorem contigL_le : ∀ {r : List (Nat × Nat × Nat)} {p z : Nat}, Contig p r z → p ≤ z
  | [], p, z, h => by have : p = z := h; omega
  | x :: r, p, z, ⟨h1, h2, h3⟩ => by have := contigL_le h3; omega
theorem contig_snoc : ∀ {A : List (Nat × Nat × Nat)} {p z : Nat} {x : Nat × Nat × Nat}, Contig p (A ++ [x]) z → Contig p A x.2.1 ∧ x.2.1 < x.2.2 ∧ x.2.2 = z
  | [], p, z, x, ⟨h1, h2, h3⟩ => ⟨h1.symm, by omega, h3⟩
  | y :: A, p, z, x, ⟨h1, h2, h3⟩ => by
    obtain ⟨k1, k2, k3⟩ := contig_snoc h3
    exact ⟨⟨h1, h2, k1⟩, k2, k3⟩
theorem last_go (s : ByteArray) (a b p : Nat) (hp : PlaceAt (s.extract a b) p) : ∀ (n : Nat) (A : List (Nat × Nat × Nat)) (f z : Nat), A.length = n → n ≤ f → Contig p A z → (∀ x ∈ A, x ∈ runesP (s.extract a b)) → z ≤ b - a →
    lastF s f (a + p) (a + z) = a + lastR A.reverse p ∧ kindF s f (a + p) (a + z) = kindC (A.reverse.map fun x => gS (x.1 : Nat)) := by
  intro n
  induction n with
  | zero =>
    intro A f z hA _ hc _ _
    have : A = [] := List.length_eq_zero_iff.1 hA
    subst this
    have hz : p = z := hc
    subst hz
    cases f with
    | zero => exact ⟨rfl, rfl⟩
    | succ f => exact ⟨if_neg (Nat.lt_irrefl _), if_neg (Nat.lt_irrefl _)⟩
  | succ n ih =>
    intro A f z hA hf hc hm hz
    obtain ⟨f, rfl⟩ : ∃ f', f = f' + 1 := ⟨f - 1, by omega⟩
    obtain ⟨A', x, rfl⟩ : ∃ A' x, A = A' ++ [x] := by
      have : A ≠ [] := by rintro rfl; simp at hA
      exact ⟨A.dropLast, A.getLast this, (List.dropLast_concat_getLast this).symm⟩
    obtain ⟨c1, c2, rfl⟩ := contig_snoc hc
    have hx := hm x (by simp)
    have hpx : p ≤ x.2.1 := contigL_le c1
    have hl := last_at (s.extract a b) hx hpx hp
    rw [← extract_two s a b p x.2.2 (by omega)] at hl
    have hA' : A'.length = n := by rw [List.length_append, List.length_singleton] at hA; omega
    have hi := ih A' f x.2.1 hA' (by omega) c1 (fun y hy => hm y (by simp [hy])) (by omega)
    have he : a + x.2.2 - (x.2.2 - x.2.1) = a + x.2.1 := by omega
    rw [List.reverse_append, List.reverse_singleton, List.singleton_append, List.map_cons]
    have hlt : a + p < a + x.2.2 := by omega
    constructor
    · have e : lastF s (f + 1) (a + p) (a + x.2.2) = if a + p < a + x.2.2 then (if blS (gS ((Lib.decodeLastL (s.extract (a + p) (a + x.2.2)).data.toList).1 : Nat)) then lastF s f (a + p) (a + x.2.2 - (Lib.decodeLastL (s.extract (a + p) (a + x.2.2)).data.toList).2) else a + x.2.2) else a + x.2.2 := rfl
      rw [e, if_pos hlt, hl, lastR]
      simp only
      rw [he, hi.1]
      split <;> rfl
    · have e : kindF s (f + 1) (a + p) (a + x.2.2) = if a + p < a + x.2.2 then (if gS ((Lib.decodeLastL (s.extract (a + p) (a + x.2.2)).data.toList).1 : Nat) = 9 then 1 else if gS ((Lib.decodeLastL (s.extract (a + p) (a + x.2.2)).data.toList).1 : Nat) = 10 then 2 else if clS (gS ((Lib.decodeLastL (s.extract (a + p) (a + x.2.2)).data.toList).1 : Nat)) then kindF s f (a + p) (a + x.2.2 - (Lib.decodeLastL (s.extract (a + p) (a + x.2.2)).data.toList).2) else 0) else 0 := rfl
      rw [e, if_pos hlt, hl, kindC]
      simp only
      rw [he, hi.2]
theorem kind_runes (s : ByteArray) (a b : Nat) (hab : a ≤ b) (hb : b ≤ s.size) : kindF s b a b = kindC (ofC sentsD (s.extract a b)).reverse := by
  have ht : (s.extract a b).size = b - a := by rw [ByteArray.size_extract]; omega
  have hc := runesP_contig (s.extract a b)
  have hp : PlaceAt (s.extract a b) 0 := by
    cases hr : runesP (s.extract a b) with
    | nil => rw [hr] at hc; have : 0 = (s.extract a b).size := hc; exact .inl this
    | cons x l => rw [hr] at hc; exact .inr ⟨x, by rw [hr]; exact List.mem_cons_self, hc.1⟩
  rw [ht] at hc
  have hl := runesP_len (s.extract a b)
  have := (last_go s a b 0 hp _ (runesP (s.extract a b)) b (b - a) rfl (by omega) hc (fun _ h => h) (Nat.le_refl _)).2
  rw [Nat.add_zero, show a + (b - a) = b by omega] at this
  rw [this]
  unfold ofC
  rw [List.map_reverse]
  rfl
end Go.Proofs.YtdngkienloligaaGreatDoor

/- -/
namespace Go.Proofs.YtdngkienloligaaGreatDoor
open Go.RowKit
theorem isS_at {s : ByteArray} {k : Nat} {x : Nat × Nat × Nat} (hx : (runesP s)[k]? = some x) : isS s (x.2.1 : Nat) = (decide (k = 0) || sCuts (toI (clsG gS (runesP s))) k) := by
  have hxm := List.mem_of_getElem? hx
  obtain ⟨h1, h2, _⟩ := place_next hxm
  have hsz : s.size ≠ 0 := by omega
  have hk := (List.getElem?_eq_some_iff.1 hx).1
  have hcut : ∀ j, j < (runesP s).length → ((List.range (runesP s).length).map fun i => decide (i = 0) || sCuts (toI (clsG gS (runesP s))) i)[j]? = some (decide (j = 0) || sCuts (toI (clsG gS (runesP s))) j) := fun j hj => by
    rw [List.getElem?_map, List.getElem?_range hj]; rfl
  have key : isS s (x.2.1 : Nat) = true ↔ (decide (k = 0) || sCuts (toI (clsG gS (runesP s))) k) = true := by
    unfold isS boundsS boundsX
    rw [if_neg hsz, List.contains_iff_mem, List.mem_map]
    constructor
    · rintro ⟨a, ha, e⟩
      have e : a = x.2.1 := by omega
      subst e
      rcases List.mem_append.1 ha with h | h
      · obtain ⟨j, y, g1, g2, g3⟩ := pickG_mem.1 h
        have hj := (List.getElem?_eq_some_iff.1 g1).1
        have hr := List.pairwise_iff_getElem.1 (runes_rise s)
        rcases Nat.lt_trichotomy j k with hlt | rfl | hlt
        · have := hr j k hj hk hlt
          rw [(List.getElem?_eq_some_iff.1 g1).2, (List.getElem?_eq_some_iff.1 hx).2] at this
          omega
        · rw [hcut j hj] at g2
          injection g2
        · have := hr k j hk hj hlt
          rw [(List.getElem?_eq_some_iff.1 g1).2, (List.getElem?_eq_some_iff.1 hx).2] at this
          omega
      · rw [List.mem_singleton] at h; omega
    · intro h
      exact ⟨x.2.1, List.mem_append.2 (.inl (pickG_mem.2 ⟨k, x, hx, by rw [hcut k hk, h], rfl⟩)), rfl⟩
  rw [Bool.eq_iff_iff]
  exact key
theorem cls_get {s : ByteArray} {k : Nat} {x : Nat × Nat × Nat} (hx : (runesP s)[k]? = some x) : (toI (clsG gS (runesP s))).getD k 0 = (gS (x.1 : Nat) : Nat) := by
  rw [toI_get, List.getD_eq_getElem?_getD]
  unfold clsG
  rw [List.getElem?_map, hx]; rfl
theorem sLine_nat (p : Nat) : sLine (p : Int) = true ↔ p = 1 ∨ p = 2 ∨ p = 3 := by
  unfold sLine
  simp only [Bool.or_eq_true, beq_iff_eq]
  omega
theorem isS_law {s : ByteArray} {k : Nat} {x y : Nat × Nat × Nat} (hx : (runesP s)[k]? = some x) (hy : (runesP s)[k + 1]? = some y) :
    ((gS (x.1 : Nat) = 1 ∧ gS (y.1 : Nat) = 2 ∨ (gS (x.1 : Nat) ≠ 1 ∧ gS (x.1 : Nat) ≠ 2 ∧ gS (x.1 : Nat) ≠ 3) ∧ gS (y.1 : Nat) = 13) → isS s (y.2.1 : Nat) = false) ∧
    ((gS (x.1 : Nat) = 2 ∨ gS (x.1 : Nat) = 3 ∨ gS (x.1 : Nat) = 1 ∧ gS (y.1 : Nat) ≠ 2) → isS s (y.2.1 : Nat) = true) := by
  rw [isS_at hy]
  have hp := cls_get hx
  have hc := cls_get hy
  generalize toI (clsG gS (runesP s)) = C at hp hc ⊢
  generalize gS (x.1 : Nat) = p at hp ⊢
  generalize gS (y.1 : Nat) = c at hc ⊢
  have h0 : decide (k + 1 = 0) = false := by simp
  rw [h0, Bool.false_or]
  constructor
  · rintro (⟨rfl, rfl⟩ | ⟨⟨h1, h2, h3⟩, rfl⟩)
    · rw [sCuts_line (by rw [hp]; exact (sLine_nat 1).2 (by omega)), hp, hc]; rfl
    · refine sCuts_extend ?_ hc
      rw [hp]
      cases hq : sLine (p : Int) with
      | false => rfl
      | true => have := (sLine_nat p).1 hq; omega
  · intro h
    rw [sCuts_line (by rw [hp]; exact (sLine_nat p).2 (by omega)), hp, hc]
    rw [Bool.not_eq_true', decide_eq_false_iff_not]
    rintro ⟨e1, e2⟩
    omega
theorem kindC_stop : ∀ (l : List Nat) (k : Nat), (∃ c, l[k]? = some c ∧ (c = 9 ∨ c = 10)) → (∀ j c, j < k → l[j]? = some c → c = 4 ∨ c = 11 ∨ c = 13) → kindC l ≠ 0
  | [], _, ⟨c, h, _⟩, _ => by simp at h
  | a :: l, 0, ⟨c, h, hc⟩, _ => by
    simp only [List.getElem?_cons_zero, Option.some.injEq] at h
    subst h
    rw [kindC]
    rcases hc with rfl | rfl <;> simp
  | a :: l, k + 1, ⟨c, h, hc⟩, h2 => by
    have h0 := h2 0 a (by omega) rfl
    have hr := kindC_stop l k ⟨c, by simpa using h, hc⟩ (fun j d hj hd => h2 (j + 1) d (by omega) (by simpa using hd))
    rw [kindC]
    rcases h0 with rfl | rfl | rfl
    · rw [if_neg (by decide), if_neg (by decide), if_pos (by decide)]; exact hr
    · rw [if_neg (by decide), if_neg (by decide), if_pos (by decide)]; exact hr
    · rw [if_neg (by decide), if_neg (by decide), if_pos (by decide)]; exact hr
theorem bound_place {s : ByteArray} {a : Nat} (h : a ∈ boundsS s) : PlaceAt s a := by
  unfold boundsS boundsX at h
  split at h
  · cases h
  · rcases List.mem_append.1 h with h | h
    · obtain ⟨k, y, h1, _, rfl⟩ := pickG_mem.1 h
      exact .inr ⟨y, List.mem_of_getElem? h1, rfl⟩
    · rw [List.mem_singleton] at h; exact .inl h
theorem bound_isS {s : ByteArray} {a : Nat} (h : a ∈ boundsS s) : isS s (a : Nat) = true := by
  unfold isS
  rw [List.contains_iff_mem]
  exact List.mem_map.2 ⟨a, h, rfl⟩
theorem sent_ends {s : ByteArray} {k x y : Nat} (hx : (boundsS s)[k]? = some x) (hy : (boundsS s)[k + 1]? = some y) (h : y < s.size) :
    kindF s y x y ≠ 0 ∨ gS ((Lib.decodeLastL (s.extract x y).data.toList).1 : Nat) = 1 ∨ gS ((Lib.decodeLastL (s.extract x y).data.toList).1 : Nat) = 2 ∨ gS ((Lib.decodeLastL (s.extract x y).data.toList).1 : Nat) = 3 := by
  have hxm := List.mem_of_getElem? hx
  have hym := List.mem_of_getElem? hy
  have hxy : x < y := by
    have hr := List.pairwise_iff_getElem.1 (boundsS_rise s)
    have := hr k (k + 1) (List.getElem?_eq_some_iff.1 hx).1 (List.getElem?_eq_some_iff.1 hy).1 (by omega)
    rwa [(List.getElem?_eq_some_iff.1 hx).2, (List.getElem?_eq_some_iff.1 hy).2] at this
  have px := bound_place hxm
  have py := bound_place hym
  obtain ⟨P, Q, e, hP, hQ⟩ := runes_sub s (Nat.le_of_lt hxy) px py
  have ht : (s.extract x y).size = y - x := by rw [ByteArray.size_extract]; omega
  have hc := runesP_contig (s.extract x y)
  have hbd : ∀ z ∈ runesP (s.extract x y), z.2.1 < z.2.2 ∧ z.2.2 ≤ y - x := fun z hz => by
    have := runesP_bd z hz
    omega
  have hlast : ∀ z ∈ runesP (s.extract x y), z.2.2 = (s.extract x y).size → Lib.decodeLastL (s.extract x y).data.toList = (z.1, z.2.2 - z.2.1) := fun z hz hz2 => last_rune _ hz hz2
  have hkr := kind_runes s x y (Nat.le_of_lt hxy) (by omega)
  rw [hkr]
  have hof : ofC sentsD (s.extract x y) = (runesP (s.extract x y)).map fun z => gS (z.1 : Nat) := rfl
  rw [hof]
  rw [ht] at hc hlast
  generalize runesP (s.extract x y) = T at e hc hbd hlast
  -- the last of the piece's runes
  obtain ⟨T', z, rfl⟩ : ∃ T' z, T = T' ++ [z] := by
    have : T ≠ [] := by
      rintro rfl
      have : 0 = y - x := hc
      omega
    exact ⟨T.dropLast, T.getLast this, (List.dropLast_concat_getLast this).symm⟩
  obtain ⟨_, hz1, hz2⟩ := contig_snoc hc
  rw [hlast z (by simp) hz2]
  simp only
  -- the place behind is that of the first of Q
  obtain ⟨q, Q', rfl⟩ : ∃ q Q', Q = q :: Q' := by
    cases Q with
    | cons q Q' => exact ⟨q, Q', rfl⟩
    | nil =>
      exfalso
      rcases py with h1 | ⟨w, hw, hw2⟩
      · omega
      · rw [e, List.append_nil] at hw
        rcases List.mem_append.1 hw with h2 | h2
        · have := hP w h2; omega
        · obtain ⟨v, hv, rfl⟩ := List.mem_map.1 h2
          have := hbd v hv
          simp only [shR] at hw2
          omega
  have hRz : (runesP s)[P.length + T'.length]? = some (shR x z) := by
    rw [e, List.append_assoc, List.getElem?_append_right (by omega), show P.length + T'.length - P.length = T'.length by omega, List.getElem?_append_left (by simp), List.getElem?_map, List.getElem?_append_right (Nat.le_refl _), Nat.sub_self]
    rfl
  have hRq : (runesP s)[P.length + T'.length + 1]? = some q := by
    rw [e, List.getElem?_append_right (by simp; omega)]
    simp
    rw [show P.length + T'.length + 1 - (P.length + (T'.length + 1)) = 0 by omega]
    rfl
  have hqy : q.2.1 = y := by
    have hr := List.pairwise_iff_getElem.1 (runes_rise s)
    rcases py with h1 | ⟨w, hw, hw2⟩
    · omega
    · have h3 := hQ q List.mem_cons_self
      rcases Nat.lt_or_ge y q.2.1 with hlt | hge
      · exfalso
        rw [e] at hw
        rcases List.mem_append.1 hw with h2 | h2
        · rcases List.mem_append.1 h2 with h2 | h2
          · have := hP w h2; omega
          · obtain ⟨v, hv, rfl⟩ := List.mem_map.1 h2
            have := hbd v hv
            simp only [shR] at hw2
            omega
        · have hpw := runes_rise s
          rw [e, List.pairwise_append] at hpw
          have h5 := hpw.2.1
          rw [List.pairwise_cons] at h5
          rcases List.mem_cons.1 h2 with rfl | h2
          · omega
          · have := h5.1 w h2; omega
      · omega
  have hcut : sCuts (toI (clsG gS (runesP s))) (P.length + T'.length + 1) = true := by
    have := isS_at hRq
    rw [hqy, bound_isS hym] at this
    simpa using this.symm
  have hcz := cls_get hRz
  by_cases hl : sLine (gS (z.1 : Nat) : Nat) = true
  · exact .inr ((sLine_nat _).1 hl)
  left
  obtain ⟨m, hm1, hm2, hm3⟩ := sCuts_ends (c := toI (clsG gS (runesP s))) (i := P.length + T'.length) (by rw [hcz]; simpa [shR] using hl) hcut
  have hget : ∀ u, u ≤ T'.length → ∃ v, (T' ++ [z])[u]? = some v ∧ (runesP s)[P.length + u]? = some (shR x v) := fun u hu => by
    obtain ⟨v, hv⟩ : ∃ v, (T' ++ [z])[u]? = some v := ⟨_, List.getElem?_eq_getElem (by simp; omega)⟩
    refine ⟨v, hv, ?_⟩
    rw [e, List.append_assoc, List.getElem?_append_right (by omega), show P.length + u - P.length = u by omega, List.getElem?_append_left (by simp; omega), List.getElem?_map, hv]
    rfl
  have hPm : P.length ≤ m := by
    rcases Nat.lt_or_ge m P.length with hlt | hge
    · exfalso
      obtain ⟨f, hf, hRf⟩ := hget 0 (by omega)
      rw [Nat.add_zero] at hRf
      have hf0 : f.2.1 = 0 := by
        cases hT : T' ++ [z] with
        | nil => simp at hT
        | cons g r =>
          rw [hT] at hf hc
          simp only [List.getElem?_cons_zero, Option.some.injEq] at hf
          subst hf
          exact hc.1
      have h1 := isS_at hRf
      have h2 : (shR x f).2.1 = x := by simp only [shR]; omega
      rw [h2, bound_isS hxm, (hm3 P.length hlt (by omega)).2, Bool.or_false] at h1
      have := of_decide_eq_true h1.symm
      omega
    · exact hge
  have hrev : ∀ j, j ≤ T'.length → ∃ c : Nat, (((T' ++ [z]).map fun z => gS (z.1 : Nat)).reverse)[j]? = some c ∧ (toI (clsG gS (runesP s))).getD (P.length + (T'.length - j)) 0 = (c : Int) := fun j hj => by
    obtain ⟨v, hv, hR⟩ := hget (T'.length - j) (by omega)
    refine ⟨gS (v.1 : Nat), ?_, by have := cls_get hR; simpa [shR] using this⟩
    rw [List.getElem?_reverse (by simp; omega), List.length_map, List.length_append, List.length_singleton, show T'.length + 1 - 1 - j = T'.length - j by omega, List.getElem?_map, hv]
    rfl
  refine kindC_stop _ (P.length + T'.length - m) ?_ ?_
  · obtain ⟨c, h1, h2⟩ := hrev (P.length + T'.length - m) (by omega)
    refine ⟨c, h1, ?_⟩
    rw [show P.length + (T'.length - (P.length + T'.length - m)) = m by omega] at h2
    rw [h2] at hm2
    unfold sStop at hm2
    simp only [Bool.or_eq_true, beq_iff_eq] at hm2
    omega
  · intro j c hj hjc
    obtain ⟨c', h1, h2⟩ := hrev j (by omega)
    rw [hjc] at h1
    injection h1 with h1
    have := (hm3 (P.length + (T'.length - j)) (by omega) (by omega)).1
    rw [h2] at this
    omega
end Go.Proofs.YtdngkienloligaaGreatDoor

/- -/
namespace Go.Proofs.YtdngkienloligaaGreatDoor
open Go.RowKit
theorem gatP_flat (s : ByteArray) : ∀ (L : List Nat) (x : Nat), (x :: L).Pairwise (· < ·) → (∀ a ∈ x :: L, a ≤ s.size) → gatP s (piecesF (x :: L)) = (s.extract x ((x :: L).getLast (by simp))).data.toList
  | [], x, _, hz => by simp [gatP, piecesF]
  | y :: L, x, h, hz => by
    rw [List.pairwise_cons] at h
    have hxy := h.1 y List.mem_cons_self
    have hy := hz y (by simp)
    have ih := gatP_flat s L y h.2 (fun a ha => hz a (List.mem_cons_of_mem _ ha))
    have hl : (y :: L).getLast (by simp) ≤ s.size := hz _ (List.mem_cons_of_mem _ (List.getLast_mem _))
    have hyl : y ≤ (y :: L).getLast (by simp) := by
      cases L with
      | nil => exact Nat.le_refl _
      | cons a r =>
        rw [List.pairwise_cons] at h
        exact Nat.le_of_lt (h.2.1 _ (by rw [List.getLast_cons (by simp)]; exact List.getLast_mem _))
    rw [piecesF, List.getLast_cons (by simp)]
    unfold gatP at ih ⊢
    rw [List.flatMap_cons, ih, clP_in ⟨by simp only; omega, hy⟩]
    simp only
    generalize (y :: L).getLast (by simp) = z at hl hyl
    simp only [ByteArray.data_extract, Array.toList_extract, List.extract_eq_take_drop]
    rw [show z - x = (y - x) + (z - y) by omega, List.take_add, List.drop_drop, show x + (y - x) = y by omega]
theorem boundsS_last {s : ByteArray} (h : s.size ≠ 0) : (boundsS s).getLast? = some s.size := by
  unfold boundsS boundsX
  rw [if_neg h, List.getLast?_append]
  rfl
theorem gatP_whole (s : ByteArray) : bytesOf (gatP s (piecesF (boundsS s))) = s := by
  by_cases h : s.size = 0
  · have e : boundsS s = [] := by unfold boundsS boundsX; rw [if_pos h]
    rw [e]
    apply ByteArray.ext
    have : s.data = #[] := by
      apply Array.eq_empty_of_size_eq_zero
      exact h
    rw [this]; rfl
  · have hl := boundsS_last h
    have hh := boundsS_head s
    have hr := boundsS_rise s
    have hz := boundsS_le s
    generalize boundsS s = L at hl hh hr hz
    cases L with
    | nil => simp at hl
    | cons x L =>
      have hx : x = 0 := hh
      subst hx
      have hg := gatP_flat s L 0 hr hz
      rw [List.getLast?_eq_some_getLast (by simp)] at hl
      injection hl with hl
      rw [hg, hl]
      apply ByteArray.ext
      simp [bytesOf]
end Go.Proofs.YtdngkienloligaaGreatDoor

/- -/
namespace Go.Proofs.YtdngkienloligaaGreatDoor
open Go.RowKit
set_option maxRecDepth 100000 in
theorem nlive_bounds : boundsS ⟨#[65, 32, 98, 46, 32, 67, 32, 100, 46]⟩ = [0, 5, 9] := by kernel_rfl
set_option maxRecDepth 100000 in
theorem nlive_count : countS ⟨#[65, 32, 98, 46, 32, 99, 32, 100, 46]⟩ = 1 := by kernel_rfl
set_option maxRecDepth 100000 in
theorem nlive_in1 : withinB ⟨#[32, 97, 46, 32]⟩ (0 : Nat) (4 : Nat) = true := by kernel_rfl
set_option maxRecDepth 100000 in
theorem nlive_in2 : withinB ⟨#[97, 46, 41, 32]⟩ (0 : Nat) (4 : Nat) = true := by kernel_rfl
set_option maxRecDepth 100000 in
theorem nlive_head : headF ⟨#[32, 97, 46, 32]⟩ (4 - 0) 0 4 = 1 := by kernel_rfl
set_option maxRecDepth 100000 in
theorem nlive_last : lastF ⟨#[32, 97, 46, 32]⟩ 4 1 4 = 3 := by kernel_rfl
set_option maxRecDepth 100000 in
theorem nlive_kind : kindF ⟨#[97, 46, 41, 32]⟩ 4 0 4 = 1 := by kernel_rfl
set_option maxRecDepth 100000 in
set_option maxHeartbeats 4000000 in
theorem nlive_any (w : World) (hE : Env w) : Calls Tryz.prog 15 #[] w fun e w' => e = .returned (.bool true) ∧ Below w.heap.size w w' := by
  have H0 := Lib.hid (nTrim_any ⟨#[32, 97, 46, 32]⟩ 0 4 w hE (by decide) (by decide) (by decide) nlive_in1)
  have H1 := Lib.hid (fun W (h : Env W) => nBounds_any ⟨#[65, 32, 98, 46, 32, 67, 32, 100, 46]⟩ W h (by decide))
  have H2 := Lib.hid (fun W (h : Env W) => nCount_any ⟨#[65, 32, 98, 46, 32, 99, 32, 100, 46]⟩ W h (by decide))
  have H3 := Lib.hid (fun W (h : Env W) => nKind_any ⟨#[97, 46, 41, 32]⟩ 0 4 W h (by decide) (by decide) (by decide) nlive_in2)
  rw [nlive_head, nlive_last] at H0
  simp only [nlive_bounds] at H1
  simp only [nlive_count] at H2
  simp only [nlive_kind] at H3
  go_enter Tryz.func15, Tryz.ntmps15
  go_wp2_with fail
  refine H0.out.mono ?_
  rintro e w0 ⟨rfl, hb0⟩
  go_wp2_with fail
  refine (H1.out _ (hE.below hb0)).mono ?_
  rintro e w1 ⟨A, n, c, rfl, ho, hb1'⟩
  have hb1 := below_two hb0 hb1'
  obtain rfl : 3 = n := ho.len
  have hb4 : Below w.heap.size w (w1.alloc (.cells #[.int .i64 0, .int .i64 5, .int .i64 9] 3)) := hb1.alloc hb1.size _
  have ho := ho.alloc (.cells #[.int .i64 0, .int .i64 5, .int .i64 9] 3)
  have hr := Rd.manyQ w1 3 1 ([(0 : Nat), 5, 9].map encN) #[.int .i64 0, .int .i64 5, .int .i64 9] rfl (by intro x hx; obtain ⟨y, _, rfl⟩ := List.mem_map.1 hx; rfl)
  have HY := Lib.hid (zPlaces_same A (some ⟨w1.heap.size, 0, none⟩) 3 c 3 [0, 5, 9] _ (ho.rd (by decide)) hr rfl (by omega))
  clear H0 H1 hr ho hb1' hb0 hb1
  go_wp2_with fail
  refine HY.out.mono ?_
  rintro e w3 ⟨rfl, hb5⟩
  have hb6 := below_step hb4 hb5 hb4.size
  go_wp2_with fail
  refine (H2.out _ (hE.below hb6)).mono ?_
  rintro e w4 ⟨rfl, hb7⟩
  have hb8 := below_step hb6 hb7 hb6.size
  go_wp2_with fail
  refine (H3.out _ (hE.below hb8)).mono ?_
  rintro e w5 ⟨rfl, hb9⟩
  have hb10 := below_step hb8 hb9 hb8.size
  go_wp2
  go_ret
  exact ⟨rfl, hb10⟩
end Go.Proofs.YtdngkienloligaaGreatDoor

/- -/
namespace Go.Proofs.YtdngkienloligaaGreatDoor
open Go.RowKit
end Go.Proofs.YtdngkienloligaaGreatDoor

/- -/
namespace Go.Proofs.YtdngkienloligaaGreatDoor
open Go.RowKit
theorem wf_i64 {n : Int} (h : (Lit.int .i64 n).wf = true) : n < 9223372036854775808 := by
  unfold Lit.wf at h
  rw [Bool.and_eq_true, decide_eq_true_iff, decide_eq_true_iff] at h
  have : IntKind.i64.max = 9223372036854775807 := by decide
  omega
set_option maxHeartbeats 1000000 in
theorem nKindZ_any (s : ByteArray) (x y : Int) (w : World) (hE : Env w) (hs : s.size ≤ 1000000) :
    Calls Tryz.prog 22 #[.string s, .int .i64 x, .int .i64 y] w fun e w' => e = .returned (.int .i64 (dKindV s x y : Nat)) ∧ Below w.heap.size w w' := by
  cases hw : withinB s x y with
  | false =>
    have HW := nwithin_any s x y w hE.tabs hs
    have HV1 : Hid (dKindV s x y = 0) := Lib.hid (by unfold dKindV; rw [hw]; rfl)
    rw [hw] at HW
    replace HW := Lib.hid HW
    clear hw
    go_enter Tryz.func22, Tryz.ntmps22
    go_wp2_with fail
    refine HW.out.mono ?_
    rintro e w1 ⟨rfl, hb1⟩
    go_wp2
    go_ret
    exact ⟨by rw [HV1.out]; rfl, hb1⟩
  | true =>
    have HV1 : dKindV s x y = kindC (ofC sentsD (s.extract x.toNat y.toNat)).reverse := by unfold dKindV; rw [hw]; rfl
    obtain ⟨a, b, rfl, rfl, hab, hbs⟩ := within_at hw
    rw [Int.toNat_natCast, Int.toNat_natCast] at HV1
    rw [HV1, ← kind_runes s a b hab hbs]
    exact nKind_any s a b w hE hs hab hbs hw
end Go.Proofs.YtdngkienloligaaGreatDoor

/- -/
namespace Go.Proofs.YtdngkienloligaaGreatDoor
open Go.RowKit Go.Shelf
attribute [local go_sem] Oper.semAt_some
theorem res_wholeS (w : World) (b : Nat) (tmps : Array Value) (ht : tmps.getD 2 undef = .pointer (some ⟨b, 0, none⟩)) {v : Bool} (hc : w.cell? ⟨b, 0, none⟩ = some (.bool v)) : (results Tryz.f3 tmps).run Tryz.prog w = .ok (.bool v) w := by
  have ht' : tmps[2]?.getD undef = .pointer (some ⟨b, 0, none⟩) := by simpa [Array.getD_eq_getD_getElem?] using ht
  simp [results, Tryz.results3, go_sem, ht', hc]
def lastW (s : ByteArray) (pre : List (Nat × Nat)) : Nat := match pre.getLast? with | some q => (clP s q).2 | none => 0
theorem lastW_snoc (s : ByteArray) (pre : List (Nat × Nat)) (q : Nat × Nat) : lastW s (pre ++ [q]) = (clP s q).2 := by
  unfold lastW; rw [List.getLast?_append]; rfl
theorem lastW_le (s : ByteArray) (pre : List (Nat × Nat)) : lastW s pre ≤ s.size := by
  unfold lastW
  cases pre.getLast? with
  | none => exact Nat.zero_le _
  | some q => exact (clP_le s q).2
theorem pieces_at (L : List Nat) (k : Nat) {x : Nat × Nat} (h : (piecesF L)[k]? = some x) : L[k]? = some x.1 ∧ L[k + 1]? = some x.2 := by
  have hk := (List.getElem?_eq_some_iff.1 h).1
  rw [piecesF_len] at hk
  obtain ⟨u, hu⟩ : ∃ u, L[k]? = some u := ⟨_, List.getElem?_eq_getElem (by omega)⟩
  obtain ⟨v, hv⟩ : ∃ v, L[k + 1]? = some v := ⟨_, List.getElem?_eq_getElem (by omega)⟩
  have := piecesF_at L k u v hu hv
  rw [h] at this
  injection this with this
  rw [this]
  exact ⟨hu, hv⟩
theorem pieces_meet (L : List Nat) (k : Nat) {x y : Nat × Nat} (h : (piecesF L)[k]? = some x) (h2 : (piecesF L)[k + 1]? = some y) : y.1 = x.2 := by
  have a := (pieces_at L k h).2
  have b := (pieces_at L (k + 1) h2).1
  rw [a] at b
  injection b with b
  exact b.symm
theorem whole_from {s : ByteArray} {pre : List (Nat × Nat)} {x : Nat × Nat} (h : pre ++ [x] <+: piecesF (boundsS s)) : (clP s x).1 = lastW s pre := by
  have hcl : ∀ y ∈ piecesF (boundsS s), clP s y = y := fun y hy => clP_in (piecesF_le (boundsS_rise s) (boundsS_le s) y hy)
  have hx := prefix_nextP h
  rw [hcl x (List.mem_of_getElem? hx)]
  rcases List.eq_nil_or_concat pre with rfl | ⟨q, y, rfl⟩
  · have h0 := boundsS_head s
    show x.1 = 0
    rw [List.length_nil] at hx
    cases hb : boundsS s with
    | nil => rw [hb] at hx; simp [piecesF] at hx
    | cons u r =>
      rw [hb] at h0 hx
      cases r with
      | nil => simp [piecesF] at hx
      | cons v r =>
        have := (pieces_at _ _ hx).1
        simp at this h0
        omega
  · rw [List.concat_eq_append] at h hx ⊢
    have hy : (piecesF (boundsS s))[q.length]? = some y := prefix_nextP (List.IsPrefix.trans (List.prefix_append _ [x]) h)
    rw [lastW_snoc, hcl y (List.mem_of_getElem? hy)]
    rw [List.length_append, List.length_singleton] at hx
    exact pieces_meet _ _ hy hx
theorem whole_up {s : ByteArray} {pre : List (Nat × Nat)} {x : Nat × Nat} (h : pre ++ [x] <+: piecesF (boundsS s)) : (clP s x).1 < (clP s x).2 := by
  have hx := prefix_nextP h
  rw [clP_in (piecesF_le (boundsS_rise s) (boundsS_le s) x (List.mem_of_getElem? hx))]
  obtain ⟨h1, h2⟩ := pieces_at _ _ hx
  have hr := List.pairwise_iff_getElem.1 (boundsS_rise s)
  have := hr _ _ (List.getElem?_eq_some_iff.1 h1).1 (List.getElem?_eq_some_iff.1 h2).1 (by omega)
  rwa [(List.getElem?_eq_some_iff.1 h1).2, (List.getElem?_eq_some_iff.1 h2).2] at this
theorem whole_ends {s : ByteArray} {pre : List (Nat × Nat)} {x : Nat × Nat} (h : pre ++ [x] <+: piecesF (boundsS s)) (hlt : (clP s x).2 < s.size) : dKindV s ((clP s x).1 : Nat) ((clP s x).2 : Nat) ≠ 0 ∨
    gS ((Lib.decodeLastL (s.extract (clP s x).1 (clP s x).2).data.toList).1 : Nat) = 1 ∨ gS ((Lib.decodeLastL (s.extract (clP s x).1 (clP s x).2).data.toList).1 : Nat) = 2 ∨ gS ((Lib.decodeLastL (s.extract (clP s x).1 (clP s x).2).data.toList).1 : Nat) = 3 := by
  have hx := prefix_nextP h
  have hle := piecesF_le (boundsS_rise s) (boundsS_le s) x (List.mem_of_getElem? hx)
  rw [clP_in hle] at hlt ⊢
  obtain ⟨h1, h2⟩ := pieces_at _ _ hx
  have hw : withinB s (x.1 : Nat) (x.2 : Nat) = true := by
    have e1 := bound_place (List.mem_of_getElem? h1)
    have e2 := bound_place (List.mem_of_getElem? h2)
    unfold withinB isE
    rw [decide_eq_true (by omega), if_neg (by omega), if_neg (by omega), Int.toNat_natCast, Int.toNat_natCast, (edge_iff s (by omega)).2 e1, (edge_iff s hle.2).2 e2]
    rfl
  have := sent_ends h1 h2 hlt
  unfold dKindV
  rw [hw, if_pos rfl]
  rw [kind_runes s x.1 x.2 hle.1 hle.2] at this
  simpa using this
structure WhI (s : ByteArray) (w wc : World) (pre : List (Nat × Nat)) (W : World) : Prop where
  d1 : Blk W w.heap.size 9 #[.string s]
  d2 : Blk W (w.heap.size + 1) 4 #[.bool false]
  c9 : Blk W wc.heap.size 3 #[.int .i64 (lastW s pre : Nat)]
  c10 : Blk W (wc.heap.size + 1) 9 #[.string (bytesOf (gatP s pre))]
  hb : Below w.heap.size w W
set_option maxRecDepth 100000 in
set_option maxHeartbeats 16000000 in
theorem nSentWhole_any (s : ByteArray) (w : World) (hE : Env w) (hs : s.size ≤ 140737488355328) :
    Calls Tryz.prog 3 #[.string s] w fun e w' => e = .returned (.bool true) ∧ Below w.heap.size w w' := by
  have HB : Below w.heap.size w ((w.alloc (.cells #[.string s] 9)).alloc (.cells #[.bool false] 4)) := ((Below.refl _ _).alloc (Nat.le_refl _) _).alloc (by simp) _
  have B1 : Blk ((w.alloc (.cells #[.string s] 9)).alloc (.cells #[.bool false] 4)) w.heap.size 9 #[.string s] := (Blk.new w 9 #[.string s]).alloc _
  have B2 : Blk ((w.alloc (.cells #[.string s] 9)).alloc (.cells #[.bool false] 4)) (w.heap.size + 1) 4 #[.bool false] := by
    have := Blk.new (w.alloc (.cells #[.string s] 9)) 4 #[.bool false]
    simpa using this
  have HLv := Lib.hid (fun W (h : Env W) => nlive_any W h)
  have c1 := B1.cell 0
  simp only [List.getElem?_toArray, List.getElem?_cons_zero] at c1
  refine (callsIn_wide (n := 6)).1 ?_
  refine callsIn_of_wp_marks Tryz.func3 rfl trivial ?_ rfl
  simp only [Tryz.ntmps3, List.size_toArray, List.length_cons, List.length_nil, Nat.reduceAdd, Nat.reduceSub, Array.replicate_succ, Array.replicate_zero, List.push_toArray, List.append_toArray, List.nil_append, List.cons_append]
  refine wpIn_wide.2 ?_
  by_cases h1 : 100 < s.size
  · have g1 : (100 : Int) < (s.size : Int) := by omega
    clear hs
    go_wp2_with fail
    generalize ((w.alloc (.cells #[.string s] 9)).alloc (.cells #[.bool false] 4)) = w0 at HB B1 B2 c1 ⊢
    refine (HLv.out _ (hE.below HB)).mono ?_
    rintro e wz ⟨rfl, hb⟩
    replace B2 := B2.below hb
    replace HB := below_two HB hb
    have c4 := B2.cell 0
    have f4 := B2.frozen 0
    simp only [List.getElem?_toArray, List.getElem?_cons_zero] at c4
    go_wp2_with fail
    have c7 := (B2.set_ 0 (.bool true)).cell 0
    simp only [List.getElem?_toArray, List.getElem?_cons_zero, List.setIfInBounds_toArray, List.set_cons_zero] at c7
    exact ⟨_, res_wholeS _ (w.heap.size + 1) _ rfl c7, rfl, HB.setCell (p := ⟨w.heap.size + 1, 0, none⟩) (by simp only; omega) _⟩
  have g1 : ¬ (100 : Int) < (s.size : Int) := by omega
  have hsz : s.size ≤ 100 := by omega
  have HC := Lib.hid (fun r W (h : Env W) => nClass_any r W h)
  have HI := Lib.hid (fun x W (h : Env W) => nIs_any s x W h (by omega))
  have HO := Lib.hid (fun z W (h : Env W) (hz : z ≤ s.size) => uOn_any s z W h.tabs hz (by omega))
  have HR := Lib.hid (fun W => eRunes_any s W (by omega))
  obtain ⟨X, HX⟩ : ∃ L, Hid (runesP s = L) := ⟨_, Lib.hid rfl⟩
  have hXz : X.length ≤ 100 := by rw [← HX.out]; exact Nat.le_trans (runesP_len s) hsz
  have HLaw := Lib.hid (fun k x y => @isS_law s k x y)
  have HEd := Lib.hid (fun i x => contig_edges (runesP s) 0 s.size i x (runesP_contig s))
  rw [HX.out] at HEd HLaw
  clear h1 hs
  go_wp2_with fail
  generalize ((w.alloc (.cells #[.string s] 9)).alloc (.cells #[.bool false] 4)) = w0 at HB B1 B2 c1 ⊢
  refine (HR.out _).mono ?_
  rw [HX.out]
  rintro e w2 ⟨A, m, c, rfl, ho, hb2⟩
  have hm : X.length = m := by have := ho.len; simpa using this
  have Hm := Lib.hid hm
  have hmz : m ≤ 100 := by omega
  have HB2 := below_two HB hb2
  have hE2 := hE.below HB2
  have P1 := B1.below hb2
  have P2 := B2.below hb2
  have HEd0 := Lib.hid (show (X.map (fun x => x.2.1) ++ [s.size])[0]? = some 0 from by
    cases X with
    | nil => have hr := runesP_contig s; rw [HX.out] at hr; have : 0 = s.size := hr; simp [← this]
    | cons x r => have hr := runesP_contig s; rw [HX.out] at hr; simp [hr.1])
  clear hm c1 B1 B2 HB
  go_upto_block 0 with fail
  go_cut [4, 5, 6, 7, 8] from 23 to 99 (fun _ _ _ _ _ wx => Below w2.heap.size w2 wx)
  case first =>
    have hBx := Below.refl w2.heap.size w2
    go_wp2_with fail
    go_loopw [4, 5, 6, 7, 8] (fun u v _ _ _ wr => ∃ j z : Nat, u = .int .i64 z ∧ v = .int .i64 j ∧ j ≤ m ∧ Hid ((X.map (fun x => x.2.1) ++ [s.size])[j]? = some z) ∧ Own wr w0.heap.size 21 1 A m c (X.map encRu) ∧ Below w2.heap.size w2 wr) (fun _ v _ _ _ _ => m - (intOf v).toNat)
    case atStart => exact ⟨0, 0, rfl, rfl, by omega, HEd0, ho, Below.refl _ _⟩
    case round =>
      obtain ⟨j, z, rfl, rfl, hj, HZ, hor, hbr⟩ := hrel
      have hEr := hE2.below hbr
      have cS := (P1.below hbr).cell 0
      simp only [List.getElem?_toArray, List.getElem?_cons_zero] at cS
      by_cases hlt : j < m
      · obtain ⟨⟨R, pp, qq⟩, Hx⟩ : ∃ x, Hid (X[j]? = some x) := ⟨_, Lib.hid (List.getElem?_eq_getElem (by have := Hm.out; omega))⟩
        have hmem : (R, pp, qq) ∈ runesP s := by rw [HX.out]; exact List.mem_of_getElem? Hx.out
        have hnx := onP_next hmem
        have hpl := place_next hmem
        simp only at hnx hpl
        have hed := HEd.out j (R, pp, qq) Hx.out
        have hzp : z = pp := by have h := HZ.out; rw [hed.1] at h; injection h with h; exact h.symm
        subst hzp
        have HZ2 : Hid ((X.map (fun x => x.2.1) ++ [s.size])[j + 1]? = some qq) := Lib.hid hed.2
        have HO2 := Lib.hid (fun W (h : Env W) => HO.out z W h (by omega))
        rw [hnx] at HO2
        have rd := hor.rd (by decide)
        obtain ⟨b, off, rfl, hcs⟩ := rd (by intro e; have := congrArg List.length e; rw [List.length_map, Hm.out] at this; simp at this; omega)
        have cr := hcs j 0 (encRu (R, z, qq)) (.int .i32 (R : Nat)) (by rw [List.getElem?_map, Hx.out]; rfl) rfl
        simp only [Nat.mul_one, Nat.add_zero] at cr
        obtain ⟨y, Hy⟩ : ∃ y, Hid (gS (R : Nat) = y) := ⟨_, Lib.hid rfl⟩
        have HCr := Lib.hid (HC.out (R : Nat) _ hEr)
        rw [Hy.out] at HCr
        clear hnx hmem hed rd HZ
        go_wp2_with fail
        refine HCr.out.mono ?_
        rintro e w4 ⟨rfl, hb4⟩
        have hor4 := hor.below hb4
        have hbr4 := below_step hbr hb4 hbr.size
        have hE4 := hEr.below hb4
        have cS4 := cell_keep cS hb4
        clear HCr cS
        cases j with
        | zero =>
          clear hcs cr
          go_wp2_with fail
          refine (HO2.out _ hE4).mono ?_
          rintro e w5 ⟨rfl, hb5⟩
          go_wp2
          go_roundw
          case rel => exact ⟨1, qq, rfl, by first | rfl | go_num, by omega, HZ2, hor4.below hb5, below_step hbr4 hb5 hbr4.size⟩
          case measure => simp [intOf]; omega
        | succ k =>
          obtain ⟨⟨R', pp', qq'⟩, Hx'⟩ : ∃ x, Hid (X[k]? = some x) := ⟨_, Lib.hid (List.getElem?_eq_getElem (by have := Hm.out; omega))⟩
          have cr' := cell_keep (hcs k 0 (encRu (R', pp', qq')) (.int .i32 (R' : Nat)) (by rw [List.getElem?_map, Hx'.out]; rfl) rfl) hb4
          simp only [Nat.mul_one, Nat.add_zero] at cr'
          have hlaw := HLaw.out k _ _ Hx'.out Hx.out
          simp only at hlaw
          obtain ⟨p, Hp⟩ : ∃ p, Hid (gS (R' : Nat) = p) := ⟨_, Lib.hid rfl⟩
          have HCp := Lib.hid (HC.out (R' : Nat) _ hE4)
          rw [Hp.out] at HCp hlaw
          rw [Hy.out] at hlaw
          have HI2 := Lib.hid (fun W h => HI.out (z : Nat) W h)
          obtain ⟨v, Hv⟩ : ∃ v, Hid (isS s (z : Nat) = v) := ⟨_, Lib.hid rfl⟩
          rw [Hv.out] at HI2 hlaw
          have HL := Lib.hid hlaw
          have e1 : ((k + 1 : Nat) : Int) - 1 = (k : Int) := by omega
          clear hlaw hcs cr Hp Hy Hv
          go_wp2_with fail
          refine HCp.out.mono ?_
          rintro e w5 ⟨rfl, hb5⟩
          have hor5 := hor4.below hb5
          have hbr5 := below_step hbr4 hb5 hbr4.size
          have hE5 := hE4.below hb5
          have cS5 := cell_keep cS4 hb5
          clear HCp hor4 cS4
          obtain hp | hp | hp | hp : p = 1 ∨ p = 2 ∨ p = 3 ∨ (p ≠ 1 ∧ p ≠ 2 ∧ p ≠ 3) := by omega
          all_goals
            first
              | subst hp
              | (obtain ⟨hp1, hp2, hp3⟩ := hp
                 have np1 : ((p : Int) == 1) = false := by rw [beq_eq_false_iff_ne]; omega
                 have np2 : ((p : Int) == 2) = false := by rw [beq_eq_false_iff_ne]; omega
                 have np3 : ((p : Int) == 3) = false := by rw [beq_eq_false_iff_ne]; omega
                 have mp1 : ((p : Int) != 1) = true := by rw [bne_iff_ne]; omega
                 have mp2 : ((p : Int) != 2) = true := by rw [bne_iff_ne]; omega
                 have mp3 : ((p : Int) != 3) = true := by rw [bne_iff_ne]; omega)
            obtain hy | hy | hy : y = 2 ∨ y = 13 ∨ (y ≠ 2 ∧ y ≠ 13) := by omega
          all_goals
            first
              | subst hy
              | (obtain ⟨hy2, hy13⟩ := hy
                 have ny2 : ((y : Int) == 2) = false := by rw [beq_eq_false_iff_ne]; omega
                 have my2 : ((y : Int) != 2) = true := by rw [bne_iff_ne]; omega
                 have ny13 : ((y : Int) == 13) = false := by rw [beq_eq_false_iff_ne]; omega)
          all_goals
            first
              | (have hv : v = false := HL.out.1 (by omega)
                 subst hv
                 go_wp2_with fail
                 refine (HI2.out _ hE5).mono ?_
                 rintro e w6 ⟨rfl, hb6⟩
                 have cS6 := cell_keep cS5 hb6
                 go_wp2_with fail
                 refine (HO2.out _ (hE5.below hb6)).mono ?_
                 rintro e w7 ⟨rfl, hb7⟩
                 go_wp2
                 go_roundw
                 case rel => exact ⟨k + 1 + 1, qq, rfl, by go_num, by omega, HZ2, (hor5.below hb6).below hb7, below_step hbr5 (below_two hb6 hb7) hbr5.size⟩
                 case measure => simp [intOf] <;> omega)
              | (have hv : v = true := HL.out.2 (by omega)
                 subst hv
                 go_wp2_with fail
                 refine (HI2.out _ hE5).mono ?_
                 rintro e w6 ⟨rfl, hb6⟩
                 have cS6 := cell_keep cS5 hb6
                 go_wp2_with fail
                 refine (HO2.out _ (hE5.below hb6)).mono ?_
                 rintro e w7 ⟨rfl, hb7⟩
                 go_wp2
                 go_roundw
                 case rel => exact ⟨k + 1 + 1, qq, rfl, by go_num, by omega, HZ2, (hor5.below hb6).below hb7, below_step hbr5 (below_two hb6 hb7) hbr5.size⟩
                 case measure => simp [intOf] <;> omega)
              | (go_wp2_with fail
                 refine (HO2.out _ hE5).mono ?_
                 rintro e w7 ⟨rfl, hb7⟩
                 go_wp2
                 go_roundw
                 case rel => exact ⟨k + 1 + 1, qq, rfl, by go_num, by omega, HZ2, hor5.below hb7, below_step hbr5 hb7 hbr5.size⟩
                 case measure => simp [intOf] <;> omega)
      · go_wp2
        go_meet
        exact hbr
  case rest =>
    have hbc := hcut
    have hE3 := hE2.below hbc
    have Q1 := P1.below hbc
    have Q2 := P2.below hbc
    have HB3 := below_two HB2 hbc
    have hz1 := Q2.lt
    clear hcut hbc P1 P2 HB2 HEd0 HEd HLaw HI HO HR ho
    have HEa := Lib.hid (fun W => nEach_any s W)
    have q1 := cell_keep (cell_keep (Q1.cell 0) ((Below.refl _ _).alloc (Nat.le_refl _) (.cells #[.int .i64 0] 3))) ((Below.refl _ _).alloc (Nat.le_refl _) (.cells #[.string ⟨#[]⟩] 9))
    go_wp2_with fail
    have hbA : Below wc.heap.size wc ((wc.alloc (.cells #[.int .i64 0] 3)).alloc (.cells #[.string ⟨#[]⟩] 9)) := ((Below.refl _ _).alloc (Nat.le_refl _) _).alloc (by simp) _
    have B9 : Blk ((wc.alloc (.cells #[.int .i64 0] 3)).alloc (.cells #[.string ⟨#[]⟩] 9)) wc.heap.size 3 #[.int .i64 0] := (Blk.new wc 3 #[.int .i64 0]).alloc _
    have B10 : Blk ((wc.alloc (.cells #[.int .i64 0] 3)).alloc (.cells #[.string ⟨#[]⟩] 9)) (wc.heap.size + 1) 9 #[.string ⟨#[]⟩] := by
      have := Blk.new (wc.alloc (.cells #[.int .i64 0] 3)) 9 #[.string ⟨#[]⟩]
      rw [World.size_alloc] at this
      exact this
    refine (HEa.out _).mono ?_
    rintro e w4 ⟨be, rfl, hce, hb4⟩
    have hbc4 := below_two hbA hb4
    have C9 := B9.below hb4
    have C10 := B10.below hb4
    have D1 := Q1.below hbc4
    have D2 := Q2.below hbc4
    have HB4 := below_two HB3 hbc4
    have hE4 := hE3.below hbc4
    have hz10 := C10.lt
    have hnil1 := seqP_nil (.func 82) #[] #[.pointer (some ⟨be, 0, none⟩)]
    clear B9 B10 hb4 hbA q1 Q1 Q2 HB3 hE3 HEa
    go_wp2_with fail
    refine (wpIn_wide (n := 6)).1 ?_
    refine rngH rfl (by decide) (gf := 82) (lb := #[.pointer (some ⟨be, 0, none⟩)]) rfl trivial (enters_of Tryz.func82 (by kernel_rfl) rfl)
      (nEach_seq 5 (by decide) w4 s be (fun b => b = wc.heap.size) (by rintro b rfl; omega) hE4 (by omega) hce) (fun h k => h.trans k) (fun W l o o' _ h hc _ => KT.put W l o o' h hc) (Below.refl _ _) (fun _ => rfl) (fun W => KT.refl _ _ W)
      (WhI s w wc)
      (fun cc pre W => cc = .ret ∧ ¬ pre <+: piecesF (boundsS s))
      (fun pre A B row hs hg hr => ⟨hs.d1.kept hg (fun r e => (hr r e).2), hs.d2.kept hg (fun r e => (hr r e).2), hs.c9.kept hg (fun r e => (hr r e).2), hs.c10.kept hg (fun r e => (hr r e).2), ownFrom_below (β := Unit) (Nat.le_refl w.heap.size) (by have := HB4.size; omega : w.heap.size ≤ w4.heap.size) () A B row hs.hb hg hr⟩)
      (fun _ _ _ _ _ hs _ _ => hs)
      ⟨D1, D2, C9, C10, HB4⟩
      (fun T (x : Nat × Nat) => (((T.setIfInBounds 105 (.int .i64 ((clP s x).1 : Nat))).setIfInBounds 106 (.int .i64 ((clP s x).2 : Nat))).setIfInBounds 12 (.int .i64 ((clP s x).1 : Nat))).setIfInBounds 13 (.int .i64 ((clP s x).2 : Nat))) ?assign ?body ?done ?stop
    case assign =>
      intro l2 x V K hK
      simp only [List.setIfInBounds_toArray, List.set_cons_succ, List.set_cons_zero] at hK
      simp only [encCl, encP2]
      gi_wp2
      exact hK
    case stop =>
      rintro D cc pre W hD hp ⟨rfl, hnp⟩ hK
      exact absurd hp hnp
    case body =>
      rintro l2 pre x W hl2 _ ⟨d1, d2, e9, e10, hbW⟩ hlen
      simp only [List.setIfInBounds_toArray, List.set_cons_succ, List.set_cons_zero]
      have hle := clP_le s x
      have hgz := gatP_len s pre
      have HN1 := Lib.hid (fun h => whole_from (s := s) (pre := pre) (x := x) h)
      have HN2 := Lib.hid (fun h => whole_up (s := s) (pre := pre) (x := x) h)
      have HN3 := Lib.hid (fun h => whole_ends (s := s) (pre := pre) (x := x) h)
      have HS1 := Lib.hid (lastW_snoc s pre x)
      have HS2 := Lib.hid (gatP_snoc s pre x)
      have hC := lastW_le s pre
      generalize lastW s pre = C at e9 HN1 hC
      generalize gatP s pre = G at e10 hgz HS2
      generalize clP s x = ab at hle HN1 HN2 HN3 HS1 HS2 ⊢
      obtain ⟨a, b⟩ := ab
      simp only at hle HN1 HN2 HN3 HS1 HS2 ⊢
      have c1 := d1.cell 0
      have f2 := d2.frozen 0
      have c2 := d2.cell 0
      have c9 := e9.cell 0
      have f9 := e9.frozen 0
      have c10 := e10.cell 0
      have f10 := e10.frozen 0
      simp only [List.getElem?_toArray, List.getElem?_cons_zero] at c1 c2 c9 c10
      obtain ⟨hab, hbs⟩ := hle
      have t1 : decide ((s.size : Int) < (b : Int)) = false := decide_eq_false (by omega)
      by_cases hac : a = C
      · subst hac
        by_cases hba : b ≤ a
        · have hnp := Lib.hid (fun h => Nat.lt_irrefl _ (Nat.lt_of_lt_of_le (HN2.out h) hba))
          clear HN1 HN2 HN3 HS1 HS2
          gi_wp2
          exact ⟨(KeepsOthers.setCell _ _ _).from _, rfl, hnp.out⟩
        · have hab' : a < b := by omega
          have hez : (s.extract a b).size = b - a := by rw [ByteArray.size_extract]; omega
          have ha0 : (0 : Int) ≤ (a : Int) := by omega
          have ha1 : (a : Int) ≤ (b : Int) := by omega
          have ha2 : (b : Int) ≤ (s.size : Int) := by omega
          have hpz : pre.length ≤ 101 := by
            have h1 := piecesF_len (boundsS s)
            have h2 := boundsS_len s
            omega
          have hGz : G.length ≤ 10100 := Nat.le_trans hgz (Nat.mul_le_mul hpz hsz)
          have hTz : (bytesOf G).size = G.length := bytesOf_size G
          have HT : Hid (bytesOf G ++ s.extract a b = bytesOf (gatP s (pre ++ [x]))) := Lib.hid (by rw [HS2.out]; apply ByteArray.ext; simp [bytesOf])
          generalize bytesOf G = T at c10 e10 hTz HT
          have cS := (World.cell?_of_block (Below.heap_setCell W ⟨wc.heap.size + 1, 0, none⟩ (.string (T ++ s.extract a b)) w.heap.size (by simp only; omega))).trans c1
          have kV := KeepsOthers.setCell W ⟨wc.heap.size + 1, 0, none⟩ (.string (T ++ s.extract a b))
          have ktV : KT 3 (fun b => b = wc.heap.size) W (W.setCell ⟨wc.heap.size + 1, 0, none⟩ (.string (T ++ s.extract a b))) := KT.setCell (A := W) e10 (by decide) 0 _
          have d1V : Blk (W.setCell ⟨wc.heap.size + 1, 0, none⟩ (.string (T ++ s.extract a b))) w.heap.size 9 #[.string s] := (Below.heap_setCell W ⟨wc.heap.size + 1, 0, none⟩ (.string (T ++ s.extract a b)) w.heap.size (by simp only; omega)).trans d1
          have d2V : Blk (W.setCell ⟨wc.heap.size + 1, 0, none⟩ (.string (T ++ s.extract a b))) (w.heap.size + 1) 4 #[.bool false] := (Below.heap_setCell W ⟨wc.heap.size + 1, 0, none⟩ (.string (T ++ s.extract a b)) (w.heap.size + 1) (by simp only; omega)).trans d2
          have e9V : Blk (W.setCell ⟨wc.heap.size + 1, 0, none⟩ (.string (T ++ s.extract a b))) wc.heap.size 3 #[.int .i64 (a : Nat)] := (Below.heap_setCell W ⟨wc.heap.size + 1, 0, none⟩ (.string (T ++ s.extract a b)) wc.heap.size (by simp only; omega)).trans e9
          have e10V : Blk (W.setCell ⟨wc.heap.size + 1, 0, none⟩ (.string (T ++ s.extract a b))) (wc.heap.size + 1) 9 #[.string (T ++ s.extract a b)] := Blk.set_ (w := W) e10 0 (.string (T ++ s.extract a b))
          have hbV : Below w.heap.size w (W.setCell ⟨wc.heap.size + 1, 0, none⟩ (.string (T ++ s.extract a b))) := hbW.setCell (p := ⟨wc.heap.size + 1, 0, none⟩) (by simp only; omega) _
          have HLa := Lib.hid (fun U (h : Env U) => eLast_any (s.extract a b) U h.tabs (by omega) (by omega))
          have HKi := Lib.hid (fun U (h : Env U) => nKindZ_any s (a : Nat) (b : Nat) U h (by omega))
          clear HN1 HN2 HS2 hgz hlen hpz
          gi_wp2_with fail
          refine wpIn_region_round (S := fun V => V.cell? ⟨w.heap.size, 0, none⟩ = some (.string s)) (by kernel_rfl) (by kernel_rfl) (fun h => by obtain ⟨_, _, h⟩ := h; exact h) c1 (fun hHeld => ?_)
          refine wpAnyH_take (i := 1) (v := ?_) rfl (by kernel_rfl) (by kernel_rfl) (by kernel_rfl) (fun _ _ _ h => h) (Or.inl ⟨by rfl, ?_⟩) (by assumption) ?_; rotate_left; focus ((intro w hSw; (try dsimp only at hSw); go_simp); try with_reducible rfl)
          (try simp only [Act.put, List.getElem_toArray, List.getElem_cons_succ, List.getElem_cons_zero, List.setIfInBounds_toArray, List.set_cons_zero, List.set_cons_succ])
          refine wpAnyH_take (i := 2) (v := ?_) rfl (by kernel_rfl) (by kernel_rfl) (by kernel_rfl) (fun _ _ _ h => h) (Or.inl ⟨by rfl, ?_⟩) (by assumption) ?_; rotate_left; focus ((intro w hSw; (try dsimp only at hSw); go_simp); try with_reducible rfl)
          (try simp only [Act.put, List.getElem_toArray, List.getElem_cons_succ, List.getElem_cons_zero, List.setIfInBounds_toArray, List.set_cons_zero, List.set_cons_succ])
          refine wpAnyH_take (i := 3) (v := ?_) rfl (by kernel_rfl) (by kernel_rfl) (by kernel_rfl) (fun _ _ _ h => h) (Or.inl ⟨by rfl, ?_⟩) (by assumption) ?_; rotate_left; focus ((intro w hSw; (try dsimp only at hSw); go_simp); try with_reducible rfl)
          (try simp only [Act.put, List.getElem_toArray, List.getElem_cons_succ, List.getElem_cons_zero, List.setIfInBounds_toArray, List.set_cons_zero, List.set_cons_succ])
          refine wpAnyH_take (i := 4) (v := ?_) rfl (by kernel_rfl) (by kernel_rfl) (by kernel_rfl) (fun _ _ _ h => h) (Or.inl ⟨by rfl, ?_⟩) (by assumption) ?_; rotate_left; focus ((intro w hSw; (try dsimp only at hSw); go_simp); try with_reducible rfl)
          (try simp only [Act.put, List.getElem_toArray, List.getElem_cons_succ, List.getElem_cons_zero, List.setIfInBounds_toArray, List.set_cons_zero, List.set_cons_succ])
          refine wpAnyH_ready (rs := [0]) (by kernel_rfl) (by simp) ?_
          refine AllReadyH.cons rfl (fun K hK => ?_) AllReadyH.nil
          go_simp
          refine hK.out _ _ c1 (fun hHeld => ?_)
          clear hK K
          (try simp only [Act.put, List.getElem_toArray, List.getElem_cons_succ, List.getElem_cons_zero, List.setIfInBounds_toArray, List.set_cons_zero, List.set_cons_succ])
          refine wpAnyH_ready (rs := [5]) (by kernel_rfl) (by simp) ?_
          refine AllReadyH.cons rfl (fun K hK => ?_) AllReadyH.nil
          go_simp
          rw [if_neg (by omega)]
          go_simp
          refine hK.out _ _ c1 (fun hHeld => ?_)
          clear hK K
          (try simp only [Act.put, List.getElem_toArray, List.getElem_cons_succ, List.getElem_cons_zero, List.setIfInBounds_toArray, List.set_cons_zero, List.set_cons_succ])
          refine wpAnyH_ready (rs := [6]) (by kernel_rfl) (by simp) ?_
          refine AllReadyH.cons rfl (fun K hK => ?_) AllReadyH.nil
          go_simp
          refine hK.out _ _ cS (fun hHeld => ?_)
          clear hK K
          (try simp only [Act.put, List.getElem_toArray, List.getElem_cons_succ, List.getElem_cons_zero, List.setIfInBounds_toArray, List.set_cons_zero, List.set_cons_succ])
          refine wpAnyH_done (by kernel_rfl) ?_ _
          generalize W.setCell ⟨wc.heap.size + 1, 0, none⟩ (.string (T ++ s.extract a b)) = V at kV ktV d1V d2V e9V e10V hbV ⊢
          clear cS c1 f2 c2 c9 f9 c10 f10 d1 d2 e9 e10 hbW
          have c9V := e9V.cell 0
          have f9V := e9V.frozen 0
          have c1V := d1V.cell 0
          simp only [List.getElem?_toArray, List.getElem?_cons_zero] at c9V c1V
          have kU := kV.trans (KeepsOthers.setCell V ⟨wc.heap.size, 0, none⟩ (.int .i64 (b : Nat)))
          have ktU := ktV.setX (b := wc.heap.size) rfl 0 (.int .i64 (b : Nat))
          have d1U : Blk (V.setCell ⟨wc.heap.size, 0, none⟩ (.int .i64 (b : Nat))) w.heap.size 9 #[.string s] := (Below.heap_setCell V ⟨wc.heap.size, 0, none⟩ (.int .i64 (b : Nat)) w.heap.size (by simp only; omega)).trans d1V
          have d2U : Blk (V.setCell ⟨wc.heap.size, 0, none⟩ (.int .i64 (b : Nat))) (w.heap.size + 1) 4 #[.bool false] := (Below.heap_setCell V ⟨wc.heap.size, 0, none⟩ (.int .i64 (b : Nat)) (w.heap.size + 1) (by simp only; omega)).trans d2V
          have e9U : Blk (V.setCell ⟨wc.heap.size, 0, none⟩ (.int .i64 (b : Nat))) wc.heap.size 3 #[.int .i64 (b : Nat)] := Blk.set_ e9V 0 (.int .i64 (b : Nat))
          have e10U : Blk (V.setCell ⟨wc.heap.size, 0, none⟩ (.int .i64 (b : Nat))) (wc.heap.size + 1) 9 #[.string (T ++ s.extract a b)] := (Below.heap_setCell V ⟨wc.heap.size, 0, none⟩ (.int .i64 (b : Nat)) (wc.heap.size + 1) (by simp only; omega)).trans e10V
          have hbU := hbV.setCell (p := ⟨wc.heap.size, 0, none⟩) (by simp only; omega) (.int .i64 (b : Nat))
          have c1U := d1U.cell 0
          simp only [List.getElem?_toArray, List.getElem?_cons_zero] at c1U
          gi_wp2_with fail
          generalize V.setCell ⟨wc.heap.size, 0, none⟩ (.int .i64 (b : Nat)) = U at kU ktU d1U d2U e9U e10U hbU c1U ⊢
          clear kV ktV d1V d2V e9V e10V hbV c9V f9V c1V
          replace kU : KeepsOthers W U.drew := ⟨kU.size, kU.same⟩
          replace ktU : KT 3 (fun b => b = wc.heap.size) W U.drew := ktU
          replace d1U : Blk U.drew w.heap.size 9 #[.string s] := d1U
          replace d2U : Blk U.drew (w.heap.size + 1) 4 #[.bool false] := d2U
          replace e9U : Blk U.drew wc.heap.size 3 #[.int .i64 (b : Nat)] := e9U
          replace e10U : Blk U.drew (wc.heap.size + 1) 9 #[.string (T ++ s.extract a b)] := e10U
          replace hbU := hbU.drew
          replace c1U : U.drew.cell? ⟨w.heap.size, 0, none⟩ = some (.string s) := c1U
          generalize U.drew = U at kU ktU d1U d2U e9U e10U hbU c1U ⊢
          have hEU := hE.below hbU
          generalize Lib.decodeLastL (s.extract a b).data.toList = dl at HLa HN3
          refine ⟨trivial, (CallsIn.inRound l2 (callsIn_wide.2 (HLa.out U hEU))).mono ?_⟩
          rintro e w5 ⟨rfl, hb5⟩
          gi_wp2_with fail
          refine ⟨trivial, (CallsIn.inRound l2 (callsIn_wide.2 (HC.out (dl.1 : Nat) w5 (hEU.below hb5)))).mono ?_⟩
          rintro e w6 ⟨rfl, hb6⟩
          have hb56 := below_two hb5 hb6
          have c16 := cell_keep c1U hb56
          have hE6 := hEU.below hb56
          generalize gS (dl.1 : Nat) = cc at HN3 ⊢
          have hEnd : ∀ Z, Below U.heap.size U Z → KeepsFrom w4.heap.size W Z ∧ KT 3 (fun b => b = wc.heap.size) W Z ∧ WhI s w wc (pre ++ [x]) Z := fun Z hZ =>
            ⟨(kU.trans (others_below hZ)).from _, ktU.trans (KT.below hZ), d1U.below hZ, d2U.below hZ, by rw [HS1.out]; exact e9U.below hZ, by rw [← HT.out]; exact e10U.below hZ, below_two hbU hZ⟩
          have HEnd := Lib.hid hEnd
          have HRet : Hid (∀ Z, Below U.heap.size U Z → KeepsOthers W Z ∧ Z.frozen? ⟨w.heap.size + 1, 0, none⟩ = false ∧ Z.cell? ⟨w.heap.size + 1, 0, none⟩ = some (.bool false)) := Lib.hid (fun Z hZ =>
            ⟨kU.trans (others_below hZ), (d2U.below hZ).frozen 0, by have := (d2U.below hZ).cell 0; simpa using this⟩)
          clear hEnd d1U d2U e9U e10U kU ktU HLa
          by_cases hbz : b < s.size
          · have tz : decide ((b : Int) < (s.size : Int)) = true := decide_eq_true (by omega)
            generalize dKindV s (a : Nat) (b : Nat) = kk at HN3 HKi
            gi_wp2_with fail
            refine ⟨trivial, (CallsIn.inRound l2 (callsIn_wide.2 (HKi.out w6 hE6))).mono ?_⟩
            rintro e w7 ⟨rfl, hb7⟩
            have hb57 := below_two hb56 hb7
            have h7 := HRet.out w7 hb57
            obtain ⟨r1, r2, r3⟩ := h7
            by_cases hk0 : kk = 0
            · subst hk0
              by_cases hc1 : cc = 1
              · subst hc1
                gi_wp2
                exact HEnd.out w7 hb57
              by_cases hc2 : cc = 2
              · subst hc2
                gi_wp2
                exact HEnd.out w7 hb57
              by_cases hc3 : cc = 3
              · subst hc3
                gi_wp2
                exact HEnd.out w7 hb57
              have n1 : ((cc : Int) != 1) = true := by rw [bne_iff_ne]; omega
              have n2 : ((cc : Int) != 2) = true := by rw [bne_iff_ne]; omega
              have n3 : ((cc : Int) != 3) = true := by rw [bne_iff_ne]; omega
              have hnp := Lib.hid (show ¬ pre ++ [x] <+: piecesF (boundsS s) from fun h => by
                rcases HN3.out h hbz with h | h | h | h
                · exact h rfl
                · exact hc1 h
                · exact hc2 h
                · exact hc3 h)
              clear HN3
              gi_wp2
              exact ⟨(r1.trans (KeepsOthers.setCell _ _ _)).from _, rfl, hnp.out⟩
            · have nk : ((kk : Int) == 0) = false := by rw [beq_eq_false_iff_ne]; omega
              gi_wp2
              exact HEnd.out w7 hb57
          · have tz : decide ((b : Int) < (s.size : Int)) = false := decide_eq_false (by omega)
            gi_wp2_with fail
            refine ⟨trivial, ?_⟩
            gi_wp2
            exact HEnd.out w6 hb56
      · have hne : ((a : Int) != (C : Int)) = true := by rw [bne_iff_ne]; omega
        have hnp := Lib.hid (fun h => hac (HN1.out h))
        clear HN1 HN2 HN3 HS1 HS2
        gi_wp2
        exact ⟨(KeepsOthers.setCell _ _ _).from _, rfl, hnp.out⟩
    case done =>
      rintro D ys W hD rfl ⟨d1, d2, e9, e10, hbW⟩ hK
      rw [gatP_whole] at e10
      have k1 := d1.cell 0
      have k10 := e10.cell 0
      simp only [List.getElem?_toArray, List.getElem?_cons_zero] at k1 k10
      have hEW := hE.below hbW
      clear e9
      go_wp2_with fail
      refine (HLv.out W hEW).mono ?_
      rintro e wz ⟨rfl, hbz⟩
      have d2z := d2.below hbz
      have c4 := d2z.cell 0
      have f4 := d2z.frozen 0
      simp only [List.getElem?_toArray, List.getElem?_cons_zero] at c4
      have hbwz := below_two hbW hbz
      clear k1 k10
      go_wp2_with fail
      have k0 := (Below.heap_setCell wz ⟨w.heap.size + 1, 0, none⟩ (.bool true) D (by simp only; omega)).trans ((hbz.block D (Array.getElem?_eq_some_iff.1 hK).1).trans hK)
      have c7 := (d2z.set_ 0 (.bool true)).cell 0
      simp only [List.getElem?_toArray, List.getElem?_cons_zero, List.setIfInBounds_toArray, List.set_cons_zero] at c7
      have HBv := hbwz.setCell (p := ⟨w.heap.size + 1, 0, none⟩) (by simp only; omega) (.bool true)
      refine ⟨by simp, .inl ⟨_, _, rfl, run_takeDeferred k0, ?_⟩⟩
      refine ⟨_, res_wholeS _ (w.heap.size + 1) _ rfl ((World.cell?_of_block (World.putObj_heap_other (by simp only; omega))).trans c7), rfl, ?_⟩
      exact HBv.trans (belowK_b (w := w) (Nat.le_refl _) _ D _ _ (by omega) k0 rfl rfl)
end Go.Proofs.YtdngkienloligaaGreatDoor

