/- -/
import Derived.Test.YtdngkienloligaaGreatDoorYSentenceWhole5a
import Derived.Test.YtdngkienloligaaGreatDoorYSentenceWhole0a
namespace Go.Proofs.YtdngkienloligaaGreatDoor
open Go.RowKit
def isE (s : ByteArray) (z : Int) : Bool := if z < 0 ∨ (s.size : Int) < z then false else edgeB s z.toNat
set_option maxRecDepth 100000 in
set_option maxHeartbeats 1000000 in
theorem uIsZ_any (s : ByteArray) (z : Int) (w : World) (hT : Tabs w) (hs : s.size ≤ 1000000) :
    Calls Tryz.prog 27 #[.string s, .int .i64 z] w fun e w' => e = .returned (.bool (isE s z)) ∧ Below w.heap.size w w' := by
  by_cases h0 : z < 0
  · have HV : Hid (isE s z = false) := Lib.hid (if_pos (.inl h0))
    go_enter Tryz.func27, Tryz.ntmps27
    go_wp2
    go_ret
    exact ⟨by rw [HV.out]; rfl, Below.refl _ _⟩
  by_cases h1 : (s.size : Int) < z
  · have HV : Hid (isE s z = false) := Lib.hid (if_pos (.inr h1))
    have h2 : z > (s.size : Int) := h1
    go_enter Tryz.func27, Tryz.ntmps27
    go_wp2
    go_ret
    exact ⟨by rw [HV.out]; rfl, Below.refl _ _⟩
  obtain ⟨k, rfl⟩ : ∃ k : Nat, z = k := ⟨z.toNat, by omega⟩
  have HV : isE s k = edgeB s k := by unfold isE; rw [if_neg (by omega)]; rfl
  rw [HV]
  exact uIs_any s k w hT (by omega) hs
set_option maxHeartbeats 1000000 in
theorem uDecode_any (s : ByteArray) (w : World) (hT : Tabs w) (h0 : 0 < s.size) :
    Calls Tryz.prog 91 #[.string s] w fun e w' => e = .returned (.tuple #[.int .i32 ((Utf8.decode s 0).1 : Nat), .int .i64 ((Utf8.decode s 0).2 : Nat)]) ∧ Below w.heap.size w w' := by
  have HC := lDecode_any s 0 w hT (by omega)
  have hx : s.extract 0 s.size = s := by simp
  have hr : runeAt s 0 = Utf8.decode s 0 := by unfold runeAt; rw [if_pos h0]
  rw [hx, hr] at HC
  replace HC := Lib.hid HC
  have hem : s.toList.isEmpty = false := by
    rw [ByteArray.toList_eq]
    cases hq : s.data.toList with
    | nil => rw [← size_data, hq] at h0; simp at h0
    | cons a b => rfl
  generalize Utf8.decode s 0 = r at HC ⊢
  clear hr hx
  go_enter Tryz.func91, Tryz.ntmps91
  go_wp2_with fail
  refine HC.out.mono ?_
  rintro e w1 ⟨rfl, hb⟩
  go_wp2
  go_ret2
  exact ⟨rfl, hb⟩
def withinB (s : ByteArray) (x y : Int) : Bool := decide (x ≤ y) && isE s x && isE s y
set_option maxHeartbeats 1000000 in
theorem nwithin_any (s : ByteArray) (x y : Int) (w : World) (hT : Tabs w) (hs : s.size ≤ 1000000) :
    Calls Tryz.prog 84 #[.string s, .int .i64 x, .int .i64 y] w fun e w' => e = .returned (.bool (withinB s x y)) ∧ Below w.heap.size w w' := by
  have HI := Lib.hid (fun z W (h : Below w.heap.size w W) => uIsZ_any s z W (hT.below h) hs)
  have HV : Hid (withinB s x y = (decide (x ≤ y) && isE s x && isE s y)) := Lib.hid rfl
  have H1 := Lib.hid (fun W h => HI.out x W h)
  have H2 := Lib.hid (fun W h => HI.out y W h)
  generalize isE s x = p at HV H1
  generalize isE s y = q at HV H2
  clear HI
  by_cases hxy : x ≤ y
  · rw [decide_eq_true hxy] at HV
    have HA := Lib.hid (H1.out w (Below.refl _ _))
    cases p with
    | false =>
      go_enter Tryz.func84, Tryz.ntmps84
      go_wp2_with fail
      refine HA.out.mono ?_
      rintro e w1 ⟨rfl, hb1⟩
      go_wp2
      go_ret
      exact ⟨by rw [HV.out]; rfl, hb1⟩
    | true =>
      go_enter Tryz.func84, Tryz.ntmps84
      go_wp2_with fail
      refine HA.out.mono ?_
      rintro e w1 ⟨rfl, hb1⟩
      have HB := Lib.hid (H2.out w1 hb1)
      go_wp2_with fail
      refine HB.out.mono ?_
      rintro e w2 ⟨rfl, hb2⟩
      go_wp2
      go_ret
      exact ⟨by rw [HV.out]; rfl, below_two hb1 hb2⟩
  · rw [decide_eq_false hxy] at HV
    go_enter Tryz.func84, Tryz.ntmps84
    go_wp2
    go_ret
    exact ⟨by rw [HV.out]; rfl, Below.refl _ _⟩
def blS (c : Nat) : Bool := c == 1 || c == 2 || c == 3 || c == 4
def blA : Array Value := #[.bool false, .bool true, .bool true, .bool true, .bool true, .bool false, .bool false, .bool false, .bool false, .bool false, .bool false, .bool false, .bool false, .bool false]
theorem blA_at {c : Nat} (h : c < 14) : blA[c]? = some (.bool (blS c)) := by
  have : c = 0 ∨ c = 1 ∨ c = 2 ∨ c = 3 ∨ c = 4 ∨ c = 5 ∨ c = 6 ∨ c = 7 ∨ c = 8 ∨ c = 9 ∨ c = 10 ∨ c = 11 ∨ c = 12 ∨ c = 13 := by omega
  rcases this with rfl | rfl | rfl | rfl | rfl | rfl | rfl | rfl | rfl | rfl | rfl | rfl | rfl | rfl <;> rfl
set_option maxRecDepth 100000 in
theorem res_blank (w : World) (b : Nat) (tmps : Array Value) (ht : tmps.getD 0 undef = .pointer (some ⟨b, 0, none⟩)) (hB : Blk w b 91 blA) : (results Tryz.f85 tmps).run Tryz.prog w = .ok (.agg blA) w := by
  have ht' : tmps[0]?.getD undef = .pointer (some ⟨b, 0, none⟩) := by simpa [Array.getD_eq_getD_getElem?] using ht
  have c0 := hB.cell 0
  have c1 := hB.cell 1
  have c2 := hB.cell 2
  have c3 := hB.cell 3
  have c4 := hB.cell 4
  have c5 := hB.cell 5
  have c6 := hB.cell 6
  have c7 := hB.cell 7
  have c8 := hB.cell 8
  have c9 := hB.cell 9
  have c10 := hB.cell 10
  have c11 := hB.cell 11
  have c12 := hB.cell 12
  have c13 := hB.cell 13
  simp only [blA, List.getElem?_toArray, List.getElem?_cons_succ, List.getElem?_cons_zero] at c0 c1 c2 c3 c4 c5 c6 c7 c8 c9 c10 c11 c12 c13
  simp [results, Tryz.results85, go_sem, ht', blA, c0, c1, c2, c3, c4, c5, c6, c7, c8, c9, c10, c11, c12, c13]
set_option maxRecDepth 100000 in
set_option maxHeartbeats 2000000 in
theorem nblank_any (w : World) : Calls Tryz.prog 85 #[] w fun e w' => e = .returned (.agg blA) ∧ Below w.heap.size w w' := by
  have HB := Lib.hid (Blk.new w 91 blA)
  unfold blA at HB
  go_enter Tryz.func85, Tryz.ntmps85
  go_wp2
  refine bodyPost_ret (res_blank _ w.heap.size _ rfl HB.out) rfl ?_
  exact ⟨rfl, (Below.refl _ _).alloc (Nat.le_refl _) _⟩
def headF (s : ByteArray) : Nat → Nat → Nat → Nat
  | 0, a, _ => a
  | f + 1, a, b => if a < b then (if blS (gS ((Utf8.decode (s.extract a b) 0).1 : Nat)) then headF s f (a + (Utf8.decode (s.extract a b) 0).2) b else a) else a
def lastF (s : ByteArray) : Nat → Nat → Nat → Nat
  | 0, _, b => b
  | f + 1, a, b => if a < b then (if blS (gS ((Lib.decodeLastL (s.extract a b).data.toList).1 : Nat)) then lastF s f a (b - (Lib.decodeLastL (s.extract a b).data.toList).2) else b) else b
def clS (c : Nat) : Bool := blS c || c == 11 || c == 13
def kindF (s : ByteArray) : Nat → Nat → Nat → Nat
  | 0, _, _ => 0
  | f + 1, a, b => if a < b then (let c := gS ((Lib.decodeLastL (s.extract a b).data.toList).1 : Nat); if c = 9 then 1 else if c = 10 then 2 else if clS c then kindF s f a (b - (Lib.decodeLastL (s.extract a b).data.toList).2) else 0) else 0
theorem headF_in (s : ByteArray) : ∀ f a b, b ≤ s.size → a ≤ b → a ≤ headF s f a b ∧ headF s f a b ≤ b := by
  intro f
  induction f with
  | zero => intro a b _ h; exact ⟨Nat.le_refl _, h⟩
  | succ f ih =>
    intro a b hb h
    unfold headF
    split
    · next hl =>
      split
      · have := dec_bd (s.extract a b) 0 (by rw [ByteArray.size_extract]; omega)
        rw [ByteArray.size_extract] at this
        have := ih (a + (Utf8.decode (s.extract a b) 0).2) b hb (by omega)
        omega
      · omega
    · omega
theorem last_bd (t : ByteArray) (h : 0 < t.size) : 1 ≤ (Lib.decodeLastL t.data.toList).2 ∧ (Lib.decodeLastL t.data.toList).2 ≤ t.size := by
  obtain ⟨r, w, e, h1, h2, _⟩ := trail_step (fun _ => 0) t h
  rw [e]; exact ⟨h1, h2⟩
set_option maxRecDepth 100000 in
set_option maxHeartbeats 8000000 in
theorem nTrim_any (s : ByteArray) (a b : Nat) (w : World) (hE : Env w) (hs : s.size ≤ 1000000) (hab : a ≤ b) (hb : b ≤ s.size) (hw : withinB s a b = true) :
    Calls Tryz.prog 74 #[.string s, .int .i64 (a : Nat), .int .i64 (b : Nat)] w fun e w' => e = .returned (.tuple #[.int .i64 (headF s (b - a) a b : Nat), .int .i64 (lastF s b (headF s (b - a) a b) b : Nat)]) ∧ Below w.heap.size w w' := by
  have HW := nwithin_any s a b w hE.tabs hs
  rw [hw] at HW
  replace HW := Lib.hid HW
  have HD := Lib.hid (fun W (h : Env W) => ndb_any W h)
  have HB := Lib.hid (fun W => nblank_any W)
  have HDec := Lib.hid (fun x y W (h : Env W) (hx : x < y) (hy : y ≤ s.size) => uDecode_any (s.extract x y) W h.tabs (by rw [ByteArray.size_extract]; omega))
  have HLst := Lib.hid (fun x y W (h : Env W) (hx : x < y) (hy : y ≤ s.size) => eLast_any (s.extract x y) W h.tabs (by rw [ByteArray.size_extract]; omega) (by rw [ByteArray.size_extract]; omega))
  have HDb := Lib.hid (fun x y (hx : x < y) (hy : y ≤ s.size) => (by
    have := dec_bd (s.extract x y) 0 (by rw [ByteArray.size_extract]; omega)
    rw [ByteArray.size_extract] at this
    omega : 1 ≤ (Utf8.decode (s.extract x y) 0).2 ∧ (Utf8.decode (s.extract x y) 0).2 ≤ y - x))
  have HLb := Lib.hid (fun x y (hx : x < y) (hy : y ≤ s.size) => (by
    have := last_bd (s.extract x y) (by rw [ByteArray.size_extract]; omega)
    rw [ByteArray.size_extract] at this
    omega : 1 ≤ (Lib.decodeLastL (s.extract x y).data.toList).2 ∧ (Lib.decodeLastL (s.extract x y).data.toList).2 ≤ y - x))
  have hha : a ≤ headF s (b - a) a b ∧ headF s (b - a) a b ≤ b := headF_in s (b - a) a b hb hab
  obtain ⟨h, Hh⟩ : ∃ h, Hid (headF s (b - a) a b = h) := ⟨_, Lib.hid rfl⟩
  rw [Hh.out] at hha ⊢
  obtain ⟨l, Hl⟩ : ∃ l, Hid (lastF s b h b = l) := ⟨_, Lib.hid rfl⟩
  rw [Hl.out]
  clear hw
  go_enter Tryz.func74, Tryz.ntmps74
  go_wp2_with fail
  refine HW.out.mono ?_
  rintro e w1 ⟨rfl, hb1⟩
  go_wp2_with fail
  refine (HD.out w1 (hE.below hb1)).mono ?_
  rintro e w2 ⟨p, rfl, hd, hb2⟩
  have hb12 := below_two hb1 hb2
  go_wp2_with fail
  refine (HB.out w2).mono ?_
  rintro e w3 ⟨rfl, hb3⟩
  have hb13 := below_two hb12 hb3
  have hd3 := hd.below hb3
  unfold blA
  clear hd hb1 hb2 hb12 hb3 HW HD HB
  go_upto_block 0 with fail
  have hB4 := Blk.new w3 91 blA
  have hb4 : Below w.heap.size w (w3.alloc (.cells blA 91)) := hb13.alloc hb13.size _
  have hd4 : DbAt (w3.alloc (.cells blA 91)) p sentsD := hd3.below ((Below.refl _ _).alloc (Nat.le_refl _) _)
  have hE4 := hE.below hb4
  unfold blA at hB4 hb4 hd4 hE4
  generalize World.alloc w3 _ = W4 at hB4 hb4 hd4 hE4 ⊢
  generalize w3.heap.size = g at hB4 ⊢
  replace hB4 : Blk W4 g 91 blA := hB4
  clear hd3 hb13
  go_cut [1, 10, 11] from 21 to 41 (fun v _ _ wx => v = .int .i64 h ∧ Below W4.heap.size W4 wx)
  case first =>
    go_wp2_with fail
    go_loopw [1, 10, 11] (fun v _ _ wr => ∃ x : Nat, v = .int .i64 x ∧ a ≤ x ∧ x ≤ b ∧ Below W4.heap.size W4 wr ∧ Hid (∃ f, b - x ≤ f ∧ h = headF s f x b)) (fun v _ _ _ => b - (intOf v).toNat)
    case atStart => exact ⟨a, rfl, Nat.le_refl _, hab, Below.refl _ _, Lib.hid ⟨b - a, Nat.le_refl _, Hh.out.symm⟩⟩
    case round =>
      obtain ⟨x, rfl, hax, hxb, hbw, HF⟩ := hrel
      obtain ⟨f, hf, HN⟩ := HF.out
      by_cases hlt : x < b
      · obtain ⟨f, rfl⟩ : ∃ f', f = f' + 1 := ⟨f - 1, by omega⟩
        have hr := HDec.out x b wr (hE4.below hbw) hlt hb
        have hsz := HDb.out x b hlt hb
        have hstep : headF s (f + 1) x b = if x < b then (if blS (gS ((Utf8.decode (s.extract x b) 0).1 : Nat)) then headF s f (x + (Utf8.decode (s.extract x b) 0).2) b else x) else x := rfl
        rw [if_pos hlt] at hstep
        rw [hstep] at HN
        clear hstep HF
        generalize Utf8.decode (s.extract x b) 0 = r at hr hsz HN
        obtain ⟨z, n⟩ := r
        have HR := Lib.hid hr
        clear hr
        simp only at HN hsz HR
        obtain ⟨hn1, hn2⟩ := hsz
        have HN := Lib.hid HN
        go_wp2_with fail
        refine HR.out.mono ?_
        rintro e wr1 ⟨rfl, hbr1⟩
        clear HR
        have hbw1 := below_two hbw hbr1
        have HG := Lib.hid (wGet_any p sentsD (z : Nat) wr1 (hd4.below hbw1) sentsOk.1 sentsOk.2.1)
        have hcl : gS (z : Nat) < 14 := gS_lt _
        generalize hc : gS (z : Nat) = c at HN hcl
        have HG : Hid (Calls Tryz.prog 80 #[.pointer (some ⟨p, 0, none⟩), .int .i32 (z : Nat)] wr1 fun e w' => e = .returned (.int .i64 (c : Nat)) ∧ Below wr1.heap.size wr1 w') := by rw [← hc]; exact HG
        clear hc
        go_wp2_with fail
        refine HG.out.mono ?_
        rintro e wr2 ⟨rfl, hbr2⟩
        clear HG
        have hbw2 := below_two hbw1 hbr2
        have cc := (hB4.below hbw2).cell c
        have cz := (hB4.below hbw2).frozen c
        rw [blA_at hcl] at cc
        cases q : blS c with
        | true =>
          rw [q] at cc HN
          have HN2 : Hid (h = headF s f (x + n) b) := Lib.hid (HN.out.trans (if_pos rfl))
          clear HN
          go_wp2
          go_roundw
          case rel => exact ⟨x + n, by first | rfl | go_num, by omega, by omega, hbw2, Lib.hid ⟨f, by omega, HN2.out⟩⟩
          case measure => simp [intOf] <;> omega
        | false =>
          rw [q] at cc HN
          have HN2 : Hid (h = x) := Lib.hid (HN.out.trans (if_neg (by simp)))
          clear HN
          go_wp2
          go_meet
          exact ⟨by rw [HN2.out], hbw2⟩
      · obtain rfl : x = b := by omega
        have hN2 : h = x := by
          cases f with
          | zero => exact HN
          | succ f => exact HN.trans (if_neg (by omega))
        clear HN HF hlt
        subst hN2
        have hlt : ¬ h < h := by omega
        go_wp2
        go_meet
        exact ⟨rfl, hbw⟩
  case rest =>
    obtain ⟨rfl, hbc⟩ := hcut
    have hB5 := hB4.below hbc
    have hd5 := hd4.below hbc
    have hE5 := hE4.below hbc
    have hb5 := below_two hb4 hbc
    clear hB4 hd4 hE4 hb4 hbc HDec HDb
    obtain ⟨hh1, hh2⟩ := hha
    go_wp2_with fail
    go_loopw [2, 12, 13] (fun v _ _ wr => ∃ y : Nat, v = .int .i64 y ∧ h ≤ y ∧ y ≤ b ∧ Below wc.heap.size wc wr ∧ Hid (∃ f, y ≤ f ∧ l = lastF s f h y)) (fun v _ _ _ => (intOf v).toNat)
    case atStart => exact ⟨b, rfl, hh2, Nat.le_refl _, Below.refl _ _, Lib.hid ⟨b, Nat.le_refl _, Hl.out.symm⟩⟩
    case round =>
      obtain ⟨y, rfl, hhy, hyb, hbw, HF⟩ := hrel
      obtain ⟨f, hf, HN⟩ := HF.out
      by_cases hlt : h < y
      · obtain ⟨f, rfl⟩ : ∃ f', f = f' + 1 := ⟨f - 1, by omega⟩
        have hr := HLst.out h y wr (hE5.below hbw) hlt (by omega)
        have hsz := HLb.out h y hlt (by omega)
        have hstep : lastF s (f + 1) h y = if h < y then (if blS (gS ((Lib.decodeLastL (s.extract h y).data.toList).1 : Nat)) then lastF s f h (y - (Lib.decodeLastL (s.extract h y).data.toList).2) else y) else y := rfl
        rw [if_pos hlt] at hstep
        rw [hstep] at HN
        clear hstep HF
        generalize Lib.decodeLastL (s.extract h y).data.toList = r at hr hsz HN
        obtain ⟨z, n⟩ := r
        have HR := Lib.hid hr
        clear hr
        simp only at HN hsz HR
        obtain ⟨hn1, hn2⟩ := hsz
        have HN := Lib.hid HN
        go_wp2_with fail
        refine HR.out.mono ?_
        rintro e wr1 ⟨rfl, hbr1⟩
        clear HR
        have hbw1 := below_two hbw hbr1
        have HG := Lib.hid (wGet_any p sentsD (z : Nat) wr1 (hd5.below hbw1) sentsOk.1 sentsOk.2.1)
        have hcl : gS (z : Nat) < 14 := gS_lt _
        generalize hc : gS (z : Nat) = c at HN hcl
        have HG : Hid (Calls Tryz.prog 80 #[.pointer (some ⟨p, 0, none⟩), .int .i32 (z : Nat)] wr1 fun e w' => e = .returned (.int .i64 (c : Nat)) ∧ Below wr1.heap.size wr1 w') := by rw [← hc]; exact HG
        clear hc
        go_wp2_with fail
        refine HG.out.mono ?_
        rintro e wr2 ⟨rfl, hbr2⟩
        clear HG
        have hbw2 := below_two hbw1 hbr2
        have cc := (hB5.below hbw2).cell c
        have cz := (hB5.below hbw2).frozen c
        rw [blA_at hcl] at cc
        cases q : blS c with
        | true =>
          rw [q] at cc HN
          have HN2 : Hid (l = lastF s f h (y - n)) := Lib.hid (HN.out.trans (if_pos rfl))
          clear HN
          have e1 : ((y : Int) - (n : Int)) = ((y - n : Nat) : Int) := by omega
          have e2 : IntKind.i64.wrap ((y : Int) - (n : Int)) = ((y - n : Nat) : Int) := by rw [e1]; exact IntWalk.i64_in _ (by omega)
          go_wp2
          go_roundw
          case rel => exact ⟨y - n, by first | rfl | go_num, by omega, by omega, hbw2, Lib.hid ⟨f, by omega, HN2.out⟩⟩
          case measure => simp [intOf] <;> omega
        | false =>
          rw [q] at cc HN
          have HN2 : Hid (l = y) := Lib.hid (HN.out.trans (if_neg (by simp)))
          clear HN
          go_wp2
          go_ret2
          exact ⟨by rw [HN2.out]; rfl, below_two hb5 hbw2⟩
      · obtain rfl : h = y := by omega
        have hN2 : l = h := by
          cases f with
          | zero => exact HN
          | succ f => exact HN.trans (if_neg (by omega))
        clear HN HF hlt
        subst hN2
        have hlt : ¬ l < l := by omega
        go_wp2
        go_ret2
        exact ⟨rfl, below_two hb5 hbw⟩
end Go.Proofs.YtdngkienloligaaGreatDoor

