/- -/
import Derived.Test.YtdnkignhenkamaaGreatDoorS7a
namespace Go.Proofs.YtdnkignhenkamaaGreatDoor
open Go.RowKit
set_option maxRecDepth 100000 in
set_option maxHeartbeats 8000000 in
theorem nSentMoves_any (s : ByteArray) (x : Int) (w : World) (hE : Env w) (hs : s.size ≤ 140737488355328) :
    Calls Tryz.prog 13 #[.string s, .int .i64 x] w fun e w' => e = .returned (.bool true) ∧ Below w.heap.size w w' := by
  have HLv := Lib.hid (fun W (h : Env W) => nlive_any W h)
  by_cases h1 : 100 < s.size
  · have g1 : (100 : Int) < (s.size : Int) := by omega
    go_enter Tryz.func13, Tryz.ntmps13
    go_wp2_with fail
    refine (HLv.out _ hE).mono ?_
    rintro e w1 ⟨rfl, hb⟩
    go_wp2
    go_ret
    exact ⟨rfl, hb⟩
  have g1 : ¬ (100 : Int) < (s.size : Int) := by omega
  have hsz : s.size ≤ 100 := by omega
  have HN := Lib.hid (fun W => dNew_any W)
  have HB := Lib.hid (fun base pb W (h : BrkB W base pb sentsD rulesS false) => bBoundsS_any base pb s W h (by omega))
  have HA := Lib.hid (fun W (h : Env W) => nAround_any s x W h (by omega))
  have HI := Lib.hid (fun W (h : Env W) => nIs_any s x W h (by omega))
  have HX := Lib.hid (fun W (h : Env W) => nNext_any s x W h (by omega))
  have HP := Lib.hid (fun W (h : Env W) => nPrev_any s x W h (by omega))
  have hL := boundsS_len s
  have HIv : Hid (isS s x = hasL (boundsS s) x) := Lib.hid rfl
  have HXv : Hid (nextS s x = aboveL (boundsS s) x s.size) := Lib.hid rfl
  rw [HIv.out] at HI
  rw [HXv.out] at HX
  generalize boundsS s = L at HB HA HI HX HP hL
  have HRA := Lib.hid (fun A c W (hA : Rd W 1 A (L.map encN)) => bAround_any A L.length c L x W hA rfl (by omega))
  have HRX := Lib.hid (fun A c W (hA : Rd W 1 A (L.map encN)) => bAbove_any A L.length c L x s.size W hA rfl (by omega))
  have HRP := Lib.hid (fun A c W (hA : Rd W 1 A (L.map encN)) => bBelow_any A L.length c L x W hA rfl (by omega))
  obtain ⟨p1, Hp1⟩ : ∃ p, Hid ((aroundL L x).1 = p) := ⟨_, Lib.hid rfl⟩
  obtain ⟨p2, Hp2⟩ : ∃ p, Hid ((aroundL L x).2 = p) := ⟨_, Lib.hid rfl⟩
  rw [Hp1.out, Hp2.out] at HA HRA
  generalize aboveL L x s.size = nx at HX HRX
  generalize belowL L x = pv at HP HRP
  clear h1 hs HIv HXv
  go_enter Tryz.func13, Tryz.ntmps13
  go_wp2_with fail
  refine (HN.out w).mono ?_
  rintro e w2 ⟨pb, rfl, hbk, hb2⟩
  go_wp2_with fail
  refine (HB.out _ _ w2 hbk).mono ?_
  rintro e w3 ⟨A, n, c, rfl, ho, hb3⟩
  obtain rfl : L.length = n := by have := ho.len; simpa using this
  have hb13 := below_two hb2 hb3
  have rd3 := ho.rd (by decide)
  clear hbk hb2 hb3 ho
  go_wp2_with fail
  refine (HA.out _ (hE.below hb13)).mono ?_
  rintro e w4 ⟨rfl, hb4⟩
  have hb14 := below_two hb13 hb4
  have rd4 := rd3.below hb4
  have HRA4 := Lib.hid (HRA.out A c w4 rd4)
  clear hb13 hb4 rd3
  go_wp2_with fail
  refine HRA4.out.mono ?_
  rintro e w5 ⟨rfl, hb5⟩
  have hb15 := below_two hb14 hb5
  have rd5 := rd4.below hb5
  clear HRA4 hb14 hb5 rd4
  go_wp2_with fail
  go_loopw [10, 11] (fun u v wr => ∃ i : Nat, v = .int .i64 i ∧ u = .bool (hasL (L.take i) x) ∧ i ≤ L.length ∧ wr = w5) (fun _ v _ => L.length - (intOf v).toNat)
  case atStart => exact ⟨0, rfl, by rfl, by omega, rfl⟩
  case round =>
    obtain ⟨i, rfl, rfl, hi, rfl⟩ := hrel
    by_cases hlt : i < L.length
    · obtain ⟨y, Hy⟩ : ∃ y, Hid (L[i]? = some y) := ⟨_, Lib.hid (List.getElem?_eq_getElem hlt)⟩
      obtain ⟨b, off, rfl, cy⟩ := rd5.atP' Hy.out
      have HN2 := Lib.hid (hasL_step (x := x) Hy.out)
      cases hq : hasL (L.take i) x with
      | true =>
        have HN3 : Hid (hasL (L.take (i + 1)) x = true) := Lib.hid (by rw [HN2.out, hq]; rfl)
        go_wp2
        go_roundw
        case rel => exact ⟨i + 1, by go_num, by rw [HN3.out], by omega, by first | rfl | trivial⟩
        case measure => simp [intOf]; omega
      | false =>
        have HN3 : Hid (hasL (L.take (i + 1)) x = ((y : Int) == x)) := Lib.hid (by rw [HN2.out, hq]; rfl)
        obtain ⟨q, Hq⟩ : ∃ q, Hid (((y : Int) == x) = q) := ⟨_, Lib.hid rfl⟩
        have hq2 := Hq.out
        rw [Hq.out] at HN3
        go_wp2
        go_roundw
        case rel => exact ⟨i + 1, by go_num, by rw [HN3.out], by omega, by first | rfl | trivial⟩
        case measure => simp [intOf]; omega
    · obtain rfl : i = L.length := by omega
      have HT : Hid (hasL (L.take L.length) x = hasL L x) := Lib.hid (by rw [List.take_length])
      rw [HT.out]
      generalize hasL L x = q at HI ⊢
      have H6 := Lib.hid (HI.out wr (hE.below hb15))
      clear HI HT
      go_wp2_with fail
      refine H6.out.mono ?_
      rintro e w6 ⟨rfl, hb6⟩
      have hb16 := below_two hb15 hb6
      have rd6 := rd5.below hb6
      have H7 := Lib.hid (HX.out w6 (hE.below hb16))
      clear H6 hb15 hb6 rd5
      cases q
      all_goals
        go_wp2_with fail
        refine H7.out.mono ?_
        rintro e w7 ⟨rfl, hb7⟩
        have hb17 := below_two hb16 hb7
        have rd7 := rd6.below hb7
        have H8 := Lib.hid (HRX.out A c w7 rd7)
        clear H7 hb16 hb7 rd6
        go_wp2_with fail
        refine H8.out.mono ?_
        rintro e w8 ⟨rfl, rfl⟩
        have H9 := Lib.hid (HP.out w7 (hE.below hb17))
        clear H8
        go_wp2_with fail
        refine H9.out.mono ?_
        rintro e w9 ⟨rfl, hb9⟩
        have hb19 := below_two hb17 hb9
        have rd9 := rd7.below hb9
        have H10 := Lib.hid (HRP.out A c w9 rd9)
        clear H9 hb17 hb9 rd7
        go_wp2_with fail
        refine H10.out.mono ?_
        rintro e w10 ⟨rfl, rfl⟩
        have H11 := Lib.hid (HLv.out w9 (hE.below hb19))
        clear H10
        go_wp2_with fail
        refine H11.out.mono ?_
        rintro e w11 ⟨rfl, hb11⟩
        go_wp2
        go_ret
        exact ⟨rfl, below_two hb19 hb11⟩
end Go.Proofs.YtdnkignhenkamaaGreatDoor

