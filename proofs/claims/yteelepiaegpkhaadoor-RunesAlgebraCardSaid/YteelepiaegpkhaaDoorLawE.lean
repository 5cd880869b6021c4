/-
  kerflaw02.RunesNorm, walked.
-/
import Derived.Test.YteelepiaegpkhaaDoorSl
import Derived.Test.YteelepiaegpkhaaDoorAlg
import Derived.Deep.RegionHeld3
namespace Go.Proofs.YteelepiaegpkhaaDoor
open Go.RowKit

/-- The slice at Q of m elements reads as the runes q. -/
structure Sq (w : World) (Q : Option Addr) (m : Nat) (q : List Int) : Prop where
  rd : Rd w 1 Q (q.map fun r => [.int .i32 r])
  len : q.length = m
theorem Sq.below {w w' : World} {Q : Option Addr} {m : Nat} {q : List Int} (h : Sq w Q m q) (hb : RowKit.Below w.heap.size w w') : Sq w' Q m q := ⟨h.rd.below hb, h.len⟩

set_option maxRecDepth 100000 in
set_option maxHeartbeats 1600000 in
theorem kRunesNorm_any (A Q : Option Addr) (n c m d : Nat) (l : List (Int × Int)) (q : List Int) (w : World) (hT : Tabs w) (hA : Rd w 2 A (l.map encR)) (hQ : Rd w 1 Q (q.map fun r => [.int .i32 r])) (ha : l.length = n) (hb : q.length = m) (hn : n ≤ maxLen) (hm : m ≤ maxLen) :
    Calls Tryd.prog 4 #[.slice A n c, .slice Q m d] w fun e w' => e = .returned (.bool true) ∧ RowKit.Below w.heap.size w w' := by
  unfold maxLen at hn hm
  have HB : RowKit.Below w.heap.size w w := RowKit.Below.refl _ _
  by_cases h1 : 1500 < n
  · clear hA hQ ha hb
    go_enter Tryd.func4, Tryd.ntmps4
    have hT2 := hT.below HB
    go_wp2_with fail
    refine (klive_any _ hT2).mono ?_
    rintro e wz ⟨rfl, hb⟩
    replace HB := below_two HB hb
    go_wp2
    go_ret
    exact ⟨rfl, HB⟩
  · by_cases h2 : 500 < m
    · clear hA hQ ha hb
      go_enter Tryd.func4, Tryd.ntmps4
      have hT2 := hT.below HB
      go_wp2_with fail
      refine (klive_any _ hT2).mono ?_
      rintro e wz ⟨rfl, hb⟩
      replace HB := below_two HB hb
      go_wp2
      go_ret
      exact ⟨rfl, HB⟩
    · have hn' : n ≤ 1500 := by omega
      have hm' : m ≤ 500 := by omega
      have ka : Sl w A n l := ⟨hA, ha, by omega⟩
      have kq : Sq w Q m q := ⟨hQ, hb⟩
      have ka0 := ka
      clear hA hQ ha hb h1 h2
      obtain ⟨bl, hbl⟩ : ∃ b, decide (l = normR l) = b := ⟨_, rfl⟩
      have Hbl := Lib.hid hbl
      clear hbl
      have HNF := Lib.hid (normR_NF l)
      have Hidem : Hid (decide (normR l = normR (normR l)) = true) := Lib.hid (decide_eq_true (normR_idem l).symm)
      go_enter Tryd.func4, Tryd.ntmps4
      go_wp2_with fail
      refine (slOwn ka).mono ?_
      rintro e w1 ⟨g1, c1, rfl, kx, hb, hg1⟩
      clear hg1
      replace ka := ka.below hb
      replace kq := kq.below hb
      replace HB := below_two HB hb
      clear hb
      have kx1 := kx
      have HB1 := HB
      go_wp2_with fail
      refine (rNorm_any _ n c1 l _ kx.sl.rd kx.sl.len (by omega)).mono ?_
      rintro e w2 ⟨Ap, np, cp, rfl, po, hb⟩
      have kp := Sl.own po HNF.out
      have HB1x := hb
      replace ka := ka.below hb
      replace kq := kq.below hb
      replace kx := kx.below hb
      replace HB := below_two HB hb
      clear hb
      go_wp2_with fail
      refine (slsNorm ka).mono ?_
      rintro e w3 ⟨A3, n3, c3, rfl, kn, hb⟩
      replace ka := ka.below hb
      replace kq := kq.below hb
      replace kx := kx.below hb
      replace kp := kp.below hb
      replace po := po.below hb
      replace HB := below_two HB hb
      replace HB1x := below_two HB1x hb
      clear hb
      go_wp2_with fail
      refine (slSame kp kn rfl).mono ?_
      rintro e w4 ⟨rfl, hb⟩
      replace ka := ka.below hb
      replace kq := kq.below hb
      replace kx := kx.below hb
      replace kp := kp.below hb
      replace po := po.below hb
      replace kn := kn.below hb
      replace HB := below_two HB hb
      replace HB1x := below_two HB1x hb
      clear hb
      clear kn
      go_wp2_with fail
      refine (slrIs kx.sl).mono ?_
      rintro e w5 ⟨rfl, hb⟩
      rw [Hbl.out]
      replace ka := ka.below hb
      replace kq := kq.below hb
      replace kx := kx.below hb
      replace kp := kp.below hb
      replace po := po.below hb
      replace HB := below_two HB hb
      replace HB1x := below_two HB1x hb
      clear hb
      go_wp2_with fail
      refine (slsIs ka).mono ?_
      rintro e w6 ⟨rfl, hb⟩
      rw [Hbl.out]
      replace ka := ka.below hb
      replace kq := kq.below hb
      replace kx := kx.below hb
      replace kp := kp.below hb
      replace po := po.below hb
      replace HB := below_two HB hb
      replace HB1x := below_two HB1x hb
      clear hb
      go_wp2_with fail
      refine (slOwn kp).mono ?_
      rintro e w7 ⟨g7, c7, rfl, ko, hb, hg7⟩
      clear hg7
      replace ka := ka.below hb
      replace kq := kq.below hb
      replace kx := kx.below hb
      replace kp := kp.below hb
      replace po := po.below hb
      replace HB := below_two HB hb
      replace HB1x := below_two HB1x hb
      clear hb
      go_wp2_with fail
      refine (slrIs ko.sl).mono ?_
      rintro e w8 ⟨rfl, hb⟩
      rw [Hidem.out]
      replace ka := ka.below hb
      replace kq := kq.below hb
      replace kx := kx.below hb
      replace kp := kp.below hb
      replace po := po.below hb
      replace ko := ko.below hb
      replace HB := below_two HB hb
      replace HB1x := below_two HB1x hb
      clear hb
      clear ko
      go_wp2_with fail
      refine (slKept kx ka).mono ?_
      rintro e w9 ⟨rfl, hb⟩
      replace ka := ka.below hb
      replace kq := kq.below hb
      replace kx := kx.below hb
      replace kp := kp.below hb
      replace po := po.below hb
      replace HB := below_two HB hb
      replace HB1x := below_two HB1x hb
      clear hb
      go_wp2_with fail
      go_loopw [7] (fun i wr => ∃ j : Nat, j ≤ m ∧ i = .int .i64 j ∧ RowKit.Below w9.heap.size w9 wr) (fun i _ => m - (intOf i).toNat)
      case atStart => exact ⟨0, by omega, rfl, RowKit.Below.refl _ _⟩
      case round =>
        obtain ⟨j, hj, rfl, hbr⟩ := hrel
        replace ka := ka.below hbr
        replace kq := kq.below hbr
        replace kx := kx.below hbr
        replace kp := kp.below hbr
        replace po := po.below hbr
        by_cases hlt : j < m
        · obtain ⟨qb, qo, r, rfl, Hr, hc⟩ := kq.rd.at1 (k := j) (by rw [kq.len]; exact hlt)
          obtain ⟨hv, hhv⟩ : ∃ b, hasB l r = b := ⟨_, rfl⟩
          have Hv := Lib.hid hhv
          have Hv2 := Lib.hid ((hasB_normR2 l r).trans hhv)
          clear hhv
          have hjm : (j : Int) < (m : Int) := by omega
          have hj0 : 0 ≤ (j : Int) := by omega
          go_wp2_with fail
          go_region_held3 (fun W => W.cell? ⟨qb, qo + j, none⟩ = some (.int .i32 r) ∧ RowKit.Below wr.heap.size wr W)
            (first | exact ⟨hcz, hBz⟩ | exact ⟨hc, RowKit.Below.refl _ _⟩ | exact ⟨hc, below_drewN (RowKit.Below.refl _ _) 1⟩)
            (first
              | (go_at_call_of 22 c1; go_split_ands; refine (slrHas (A := some ⟨g1, 0, none⟩) (n := n) (c := c1) (l := l) r (kx.sl.below (by assumption))).mono ?_; rintro e wz ⟨rfl, hz⟩; rw [Hv.out]; have hBz := below_two (by assumption) hz; have hcz := cell_keep hc hBz)
              | (go_at_call_of 22 cp; go_split_ands; refine (slrHas (A := Ap) (n := np) (c := cp) (l := normR l) r (kp.below (by assumption))).mono ?_; rintro e wz ⟨rfl, hz⟩; rw [Hv2.out]; have hBz := below_two (by assumption) hz; have hcz := cell_keep hc hBz)
              | (go_at_call 23; go_split_ands; refine (slsHas (A := A) (n := n) (c := c) (l := l) r (ka.below (by assumption))).mono ?_; rintro e wz ⟨rfl, hz⟩; rw [Hv.out]; have hBz := below_two (by assumption) hz; have hcz := cell_keep hc hBz))
          go_wp2
          go_roundw
          case rel => exact ⟨j + 1, by omega, by go_num, below_two hbr hBz⟩
          case measure => simp [intOf]; omega
        · obtain rfl : j = m := by omega
          have hnp : np ≤ 557056 := own_nf_len po HNF.out
          have hB9 := below_two HB1x hbr
          clear ka kq kx kp hlt HB HB1x hbr
          go_wp2_with fail
          go_loopw [8] (fun i wr2 => ∃ (j2 : Nat) (L : List (Int × Int)), j2 ≤ np ∧ i = .int .i64 j2 ∧ Own wr2 w1.heap.size 37 2 Ap np cp (L.map encR) ∧ RowKit.Below w1.heap.size w1 wr2) (fun i _ => np - (intOf i).toNat)
          case atStart => exact ⟨0, normR l, by omega, rfl, po, hB9⟩
          case round =>
            clear po hB9
            obtain ⟨j2, L, hj2, rfl, ho, hb2⟩ := hrel
            by_cases hlt2 : j2 < np
            · obtain ⟨g, rfl, hgB, hgl⟩ := ho.form (by omega)
              have hL : j2 < L.length := by have := ho.len; simp at this; omega
              obtain ⟨⟨lo, hi⟩, hx⟩ : ∃ x, L[j2]? = some x := ⟨_, List.getElem?_eq_getElem hL⟩
              have ⟨d1, d2⟩ := ho.cellR hx
              have f1 := ho.frozen (j2 * 2)
              have f2 := ho.frozen (j2 * 2 + 1)
              clear hx
              go_wp2
              go_roundw
              case rel => exact ⟨j2 + 1, L.set j2 (-1, -1), by omega, by go_num, ho.storedR hL (-1) (-1), (hb2.setCell (p := ⟨g, j2 * 2, none⟩) hgB _).setCell (p := ⟨g, j2 * 2 + 1, none⟩) hgB _⟩
              case measure => simp [intOf]; omega
            · have HB := below_two HB1 hb2
              have kx := kx1.below hb2
              have ka := ka0.below HB
              go_wp2_with fail
              refine (slKept kx ka).mono ?_
              rintro e w1 ⟨rfl, hb⟩
              replace kx := kx.below hb
              replace ka := ka.below hb
              replace HB := below_two HB hb
              clear hb
              have hT2 := hT.below HB
              go_wp2_with fail
              refine (klive_any _ hT2).mono ?_
              rintro e wz ⟨rfl, hb⟩
              replace HB := below_two HB hb
              go_wp2
              go_ret
              exact ⟨rfl, HB⟩
end Go.Proofs.YteelepiaegpkhaaDoor
