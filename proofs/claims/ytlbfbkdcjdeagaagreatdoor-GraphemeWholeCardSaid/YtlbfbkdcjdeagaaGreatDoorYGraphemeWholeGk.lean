/-
  kerflaw11.GraphemeWhole, walked.
-/
import Derived.Test.YtlbfbkdcjdeagaaGreatDoorYGraphemeWhole3a
namespace Go.Proofs.YtlbfbkdcjdeagaaGreatDoor
open Go.RowKit

set_option maxRecDepth 100000 in
set_option maxHeartbeats 16000000 in
theorem mWhole_any (s : ByteArray) (fl n : Int) (w : World) (hE : Env w) (hs : s.size ≤ 140737488355328) :
    Calls Tryz.prog 13 #[.string s, .int .i64 fl, .int .i64 n] w fun e w' => e = .returned (.bool true) ∧ Below w.heap.size w w' := by
  have HLv := Lib.hid (fun W (h : Env W) => glive_any W h)
  by_cases h1 : 120 < s.size
  · have g1 : (120 : Int) < (s.size : Int) := by omega
    go_enter Tryz.func13, Tryz.ntmps13
    go_wp2_with fail
    refine (HLv.out _ hE).mono ?_
    rintro e w1 ⟨rfl, hb⟩
    go_wp2
    go_ret
    exact ⟨rfl, hb⟩
  have g1 : ¬ (120 : Int) < (s.size : Int) := by omega
  by_cases h2 : fl < 0
  · clear h1
    go_enter Tryz.func13, Tryz.ntmps13
    go_wp2_with fail
    refine (HLv.out _ hE).mono ?_
    rintro e w1 ⟨rfl, hb⟩
    go_wp2
    go_ret
    exact ⟨rfl, hb⟩
  by_cases h3 : 20 < fl
  · clear h1
    go_enter Tryz.func13, Tryz.ntmps13
    go_wp2_with fail
    refine (HLv.out _ hE).mono ?_
    rintro e w1 ⟨rfl, hb⟩
    go_wp2
    go_ret
    exact ⟨rfl, hb⟩
  obtain ⟨F, rfl⟩ : ∃ F : Nat, fl = F := ⟨fl.toNat, by omega⟩
  have hF : F ≤ 20 := by omega
  have hsz : s.size ≤ 120 := by omega
  have HC := Lib.hid (fun r W (h : Env W) => gClass_any r W h)
  have HN := Lib.hid (fun t W (h : Env W) (ht : t.size ≤ 1000000) => gCount_any t W h ht)
  have HI := Lib.hid (fun x W (h : Env W) => gIs_any s x W h (by omega))
  have HO := Lib.hid (fun z W (h : Env W) (hz : z ≤ s.size) => uOn_any s z W h.tabs hz (by omega))
  have HR := Lib.hid (fun W => eRunes_any s W (by omega))
  have HU := Lib.hid (fun W (h : Env W) => gCut_any s n W h (by omega))
  have HT := Lib.hid (fun W (h : Env W) => gTurn_any s W h (by omega))
  obtain ⟨X, HX⟩ : ∃ L, Hid (runesP s = L) := ⟨_, Lib.hid rfl⟩
  have hXz : X.length ≤ 120 := by rw [← HX.out]; exact Nat.le_trans (runesP_len s) hsz
  have HFz := Lib.hid fT_size
  have HFs := Lib.hid fT_succ
  have HFc := Lib.hid (fT_count F hF)
  have HLaw := Lib.hid (fun k x y => @isG_law s k x y)
  have HEd := Lib.hid (fun i x => contig_edges (runesP s) 0 s.size i x (runesP_contig s))
  rw [HX.out] at HEd HLaw
  clear h1 hs
  go_enter Tryz.func13, Tryz.ntmps13
  go_wp2_with fail
  go_loopw [7, 8] (fun u v wr => ∃ i : Nat, u = .string (fT i) ∧ v = .int .i64 i ∧ i ≤ F ∧ wr = w) (fun _ v _ => F - (intOf v).toNat)
  case atStart => exact ⟨0, rfl, rfl, by omega, rfl⟩
  case round =>
    obtain ⟨i, rfl, rfl, hi, rfl⟩ := hrel
    by_cases hlt : i < F
    · have hz := HFz.out i
      have hsc := HFs.out i
      go_wp2
      go_roundw
      case rel => exact ⟨i + 1, by first | rfl | (rw [hsc]), by go_num, by omega, by first | rfl | trivial⟩
      case measure => simp [intOf]; omega
    · obtain rfl : i = F := by omega
      have HNf := Lib.hid (HN.out (fT i) wr hE (by rw [HFz.out]; omega))
      obtain ⟨i1, hi1⟩ : ∃ i1, i + 1 = i1 := ⟨_, rfl⟩
      obtain ⟨h2, hh2⟩ : ∃ h2, i1 / 2 = h2 := ⟨_, rfl⟩
      obtain ⟨c1, hc1⟩ : ∃ c1, 1 + h2 = c1 := ⟨_, rfl⟩
      have q0 : (i : Int) + 1 = (i1 : Int) := by omega
      have q1 : Int.tdiv (i1 : Int) 2 = (h2 : Int) := by subst hh2; rfl
      have q2 : (1 : Int) + (h2 : Int) = (c1 : Int) := by omega
      have q3 : i1 ≤ 21 := by omega
      have q4 : h2 ≤ 21 := by omega
      have q5 : c1 ≤ 22 := by omega
      rw [HFc.out, hi1, hh2, hc1] at HNf
      clear hi1 hh2 hc1
      go_wp2_with fail
      refine HNf.out.mono ?_
      rintro e w1 ⟨rfl, hb1⟩
      have hE1 := hE.below hb1
      clear HNf HFz HFs HFc
      go_wp2_with fail
      refine (HR.out _).mono ?_
      rw [HX.out]
      rintro e w2 ⟨A, m, c, rfl, ho, hb2⟩
      have hm : X.length = m := by have := ho.len; simpa using this
      have Hm := Lib.hid hm
      have hmz : m ≤ 120 := by omega
      have hb12 := below_two hb1 hb2
      have hE2 := hE1.below hb2
      have HEd0 := Lib.hid (show (X.map (fun x => x.2.1) ++ [s.size])[0]? = some 0 from by
        cases X with
        | nil => have hr := runesP_contig s; rw [HX.out] at hr; have : 0 = s.size := hr; simp [← this]
        | cons x r => have hr := runesP_contig s; rw [HX.out] at hr; simp [hr.1])
      clear hm q0 q1 q2 q3 q4 q5
      go_wp2_with fail
      go_loopw [10, 11] (fun u v wr => ∃ j z : Nat, u = .int .i64 z ∧ v = .int .i64 j ∧ j ≤ m ∧ Hid ((X.map (fun x => x.2.1) ++ [s.size])[j]? = some z) ∧ Own wr w1.heap.size 21 1 A m c (X.map encRu) ∧ Below w2.heap.size w2 wr) (fun _ v _ => m - (intOf v).toNat)
      case atStart => exact ⟨0, 0, rfl, rfl, by omega, HEd0, ho, Below.refl _ _⟩
      case round =>
        obtain ⟨j, z, rfl, rfl, hj, HZ, hor, hbr⟩ := hrel
        have hEr := hE2.below hbr
        have hb2r := below_step hb12 hbr hb12.size
        by_cases hlt : j < m
        · obtain ⟨⟨R, pp, qq⟩, Hx⟩ : ∃ x, Hid (X[j]? = some x) := ⟨_, Lib.hid (List.getElem?_eq_getElem (by have := Hm.out; omega))⟩
          have hmem : (R, pp, qq) ∈ runesP s := by rw [HX.out]; exact List.mem_of_getElem? Hx.out
          have hnx := onP_next hmem
          have hpl := place_next hmem
          simp only at hnx hpl
          have hed := HEd.out j (R, pp, qq) Hx.out
          have hzp : z = pp := by have h := HZ.out; rw [hed.1] at h; injection h with h; exact h.symm
          subst hzp
          have HZ2 : Hid ((X.map (fun x => x.2.1) ++ [s.size])[j + 1]? = some qq) := Lib.hid hed.2
          have HO2 := Lib.hid (fun W (h : Env W) => HO.out z W h (by omega))
          rw [hnx] at HO2
          have rd := hor.rd (by decide)
          obtain ⟨b, off, rfl, hcs⟩ := rd (by intro e; have := congrArg List.length e; rw [List.length_map, Hm.out] at this; simp at this; omega)
          have cr := hcs j 0 (encRu (R, z, qq)) (.int .i32 (R : Nat)) (by rw [List.getElem?_map, Hx.out]; rfl) rfl
          simp only [Nat.mul_one, Nat.add_zero] at cr
          obtain ⟨y, Hy⟩ : ∃ y, Hid (gG (R : Nat) = y) := ⟨_, Lib.hid rfl⟩
          have HCr := Lib.hid (HC.out (R : Nat) _ hEr)
          rw [Hy.out] at HCr
          clear hnx hmem hed rd HZ
          go_wp2_with fail
          refine HCr.out.mono ?_
          rintro e w4 ⟨rfl, hb4⟩
          have hor4 := hor.below hb4
          have hbr4 := below_step hbr hb4 hbr.size
          have hE4 := hEr.below hb4
          clear HCr
          cases j with
          | zero =>
            clear hcs cr
            go_wp2_with fail
            refine (HO2.out _ hE4).mono ?_
            rintro e w5 ⟨rfl, hb5⟩
            go_wp2
            go_roundw
            case rel => exact ⟨1, qq, rfl, by first | rfl | go_num, by omega, HZ2, hor4.below hb5, below_step hbr4 hb5 hbr4.size⟩
            case measure => simp [intOf]; omega
          | succ k =>
            obtain ⟨⟨R', pp', qq'⟩, Hx'⟩ : ∃ x, Hid (X[k]? = some x) := ⟨_, Lib.hid (List.getElem?_eq_getElem (by have := Hm.out; omega))⟩
            have cr' := cell_keep (hcs k 0 (encRu (R', pp', qq')) (.int .i32 (R' : Nat)) (by rw [List.getElem?_map, Hx'.out]; rfl) rfl) hb4
            simp only [Nat.mul_one, Nat.add_zero] at cr'
            have hlaw := HLaw.out k _ _ Hx'.out Hx.out
            simp only at hlaw
            obtain ⟨p, Hp⟩ : ∃ p, Hid (gG (R' : Nat) = p) := ⟨_, Lib.hid rfl⟩
            have HCp := Lib.hid (HC.out (R' : Nat) _ hE4)
            rw [Hp.out] at HCp hlaw
            rw [Hy.out] at hlaw
            have HI2 := Lib.hid (fun W h => HI.out (z : Nat) W h)
            obtain ⟨v, Hv⟩ : ∃ v, Hid (isG s (z : Nat) = v) := ⟨_, Lib.hid rfl⟩
            rw [Hv.out] at HI2 hlaw
            have HL := Lib.hid hlaw
            have e1 : ((k + 1 : Nat) : Int) - 1 = (k : Int) := by omega
            clear hlaw hcs cr Hp Hy Hv
            go_wp2_with fail
            refine HCp.out.mono ?_
            rintro e w5 ⟨rfl, hb5⟩
            have hor5 := hor4.below hb5
            have hbr5 := below_step hbr4 hb5 hbr4.size
            have hE5 := hE4.below hb5
            clear HCp hor4
            obtain hp | hp | hp | hp : p = 1 ∨ p = 2 ∨ p = 3 ∨ (p ≠ 1 ∧ p ≠ 2 ∧ p ≠ 3) := by omega
            all_goals
              first
                | subst hp
                | (obtain ⟨hp1, hp2, hp3⟩ := hp
                   have np1 : ((p : Int) == 1) = false := by rw [beq_eq_false_iff_ne]; omega
                   have np2 : ((p : Int) == 2) = false := by rw [beq_eq_false_iff_ne]; omega
                   have np3 : ((p : Int) == 3) = false := by rw [beq_eq_false_iff_ne]; omega
                   have mp1 : ((p : Int) != 1) = true := by rw [bne_iff_ne]; omega
                   have mp2 : ((p : Int) != 2) = true := by rw [bne_iff_ne]; omega
                   have mp3 : ((p : Int) != 3) = true := by rw [bne_iff_ne]; omega)
              obtain hy | hy | hy | hy | hy | hy | hy : y = 1 ∨ y = 2 ∨ y = 3 ∨ y = 4 ∨ y = 5 ∨ y = 6 ∨ (y ≠ 1 ∧ y ≠ 2 ∧ y ≠ 3 ∧ y ≠ 4 ∧ y ≠ 5 ∧ y ≠ 6) := by omega
            all_goals
              first
                | subst hy
                | (obtain ⟨hy1, hy2, hy3, hy4, hy5, hy6⟩ := hy
                   have ny1 : ((y : Int) == 1) = false := by rw [beq_eq_false_iff_ne]; omega
                   have ny2 : ((y : Int) == 2) = false := by rw [beq_eq_false_iff_ne]; omega
                   have ny3 : ((y : Int) == 3) = false := by rw [beq_eq_false_iff_ne]; omega
                   have ny4 : ((y : Int) == 4) = false := by rw [beq_eq_false_iff_ne]; omega
                   have ny5 : ((y : Int) == 5) = false := by rw [beq_eq_false_iff_ne]; omega
                   have ny6 : ((y : Int) == 6) = false := by rw [beq_eq_false_iff_ne]; omega)
            all_goals
              first
                | (have hv : v = false := HL.out.1 (by omega)
                   subst hv
                   go_wp2_with fail
                   refine (HI2.out _ hE5).mono ?_
                   rintro e w6 ⟨rfl, hb6⟩
                   go_wp2_with fail
                   refine (HO2.out _ (hE5.below hb6)).mono ?_
                   rintro e w7 ⟨rfl, hb7⟩
                   go_wp2
                   go_roundw
                   case rel => exact ⟨k + 1 + 1, qq, rfl, by go_num, by omega, HZ2, (hor5.below hb6).below hb7, below_step hbr5 (below_two hb6 hb7) hbr5.size⟩
                   case measure => simp [intOf] <;> omega)
                | (have hv : v = true := HL.out.2 (by omega)
                   subst hv
                   go_wp2_with fail
                   refine (HI2.out _ hE5).mono ?_
                   rintro e w6 ⟨rfl, hb6⟩
                   go_wp2_with fail
                   refine (HO2.out _ (hE5.below hb6)).mono ?_
                   rintro e w7 ⟨rfl, hb7⟩
                   go_wp2
                   go_roundw
                   case rel => exact ⟨k + 1 + 1, qq, rfl, by go_num, by omega, HZ2, (hor5.below hb6).below hb7, below_step hbr5 (below_two hb6 hb7) hbr5.size⟩
                   case measure => simp [intOf] <;> omega)
                | (go_wp2_with fail
                   refine (HO2.out _ hE5).mono ?_
                   rintro e w7 ⟨rfl, hb7⟩
                   go_wp2
                   go_roundw
                   case rel => exact ⟨k + 1 + 1, qq, rfl, by go_num, by omega, HZ2, hor5.below hb7, below_step hbr5 hb7 hbr5.size⟩
                   case measure => simp [intOf] <;> omega)
        · obtain rfl : j = m := by omega
          have hzle := placeG_le s n
          have hCC := fun (N : Nat) => @cut_count s N
          have hTz := turn_len gG s
          have HU2 := Lib.hid (HU.out _ hEr)
          have HT2 := Lib.hid HT.out
          obtain ⟨K, HK⟩ : ∃ K, Hid (countG s = K) := ⟨_, Lib.hid rfl⟩
          have HNs := Lib.hid (fun W (h : Env W) => HN.out s W h (by omega))
          rw [HK.out] at HNs
          have hKz : K ≤ 1000 := by
            have := HK.out
            unfold countG at this
            have := bounds_len s
            omega
          obtain ⟨z, Hz⟩ : ∃ z, Hid (placeG s n = z) := ⟨_, Lib.hid rfl⟩
          rw [Hz.out] at HU2 hzle
          have hcw := cut_whole s z hzle
          have hxs : (s.extract 0 z).size ≤ 120 := by rw [ByteArray.size_extract]; omega
          have hys : (s.extract z s.size).size ≤ 120 := by rw [ByteArray.size_extract]; omega
          have HNx := Lib.hid (fun W (h : Env W) => HN.out (s.extract 0 z) W h (by omega))
          have HCx : Hid (∀ N : Nat, n = N → N ≤ K → countG (s.extract 0 z) = N) := Lib.hid (fun N hn hN => by
            subst hn
            rw [← Hz.out]
            exact hCC N (by rw [HK.out]; exact hN))
          have htz : (bytesOf (turnL s (boundsG gG s))).size = s.size := hTz
          generalize s.extract 0 z = x at HU2 hcw hxs HNx HCx
          generalize s.extract z s.size = y at HU2 hcw hys
          generalize bytesOf (turnL s (boundsG gG s)) = t at HT2 htz
          clear hTz hCC hor HZ HEd HEd0 HLaw
          go_wp2_with fail
          refine HU2.out.mono ?_
          rintro e w3 ⟨rfl, hb3⟩
          go_wp2_with fail
          refine (HNs.out _ (hEr.below hb3)).mono ?_
          rintro e w4 ⟨rfl, hb4⟩
          have hb34 := below_two hb3 hb4
          have hb4r := below_step hb2r hb34 hb2r.size
          have hE4 := hEr.below hb34
          by_cases hn0 : n < 0
          · go_wp2_with fail
            refine (HT2.out _ hE4).mono ?_
            rintro e w5 ⟨rfl, hb5⟩
            go_wp2_with fail
            refine (HLv.out _ (hE4.below hb5)).mono ?_
            rintro e w6 ⟨rfl, hb6⟩
            go_wp2
            go_ret
            exact ⟨rfl, below_step hb4r (below_two hb5 hb6) hb4r.size⟩
          · by_cases hnK : n > (K : Int)
            · go_wp2_with fail
              refine (HT2.out _ hE4).mono ?_
              rintro e w5 ⟨rfl, hb5⟩
              go_wp2_with fail
              refine (HLv.out _ (hE4.below hb5)).mono ?_
              rintro e w6 ⟨rfl, hb6⟩
              go_wp2
              go_ret
              exact ⟨rfl, below_step hb4r (below_two hb5 hb6) hb4r.size⟩
            · obtain ⟨N, rfl⟩ : ∃ N : Nat, n = N := ⟨n.toNat, by omega⟩
              have hcx := HCx.out N rfl (by omega)
              have HNy := Lib.hid HNx.out
              rw [hcx] at HNy
              clear hcx HCx
              go_wp2_with fail
              refine (HNy.out _ hE4).mono ?_
              rintro e w5 ⟨rfl, hb5⟩
              have hE5 := hE4.below hb5
              go_wp2_with fail
              refine (HT2.out _ hE5).mono ?_
              rintro e w6 ⟨rfl, hb6⟩
              go_wp2_with fail
              refine (HLv.out _ (hE5.below hb6)).mono ?_
              rintro e w7 ⟨rfl, hb7⟩
              go_wp2
              go_ret
              exact ⟨rfl, below_step hb4r (below_two (below_two hb5 hb6) hb7) hb4r.size⟩
end Go.Proofs.YtlbfbkdcjdeagaaGreatDoor

