/-
  Several texts in one, in their build order: Wp, Vn, Va, Vc, Ve, Vf, Vg, Vh, Last, Vp, Qf.
-/
import Derived.RegionTactic
import Derived.BigRegion
import Derived.Deep.RegionHeld3
import Derived.Deep.DeepMust
import Derived.Test.YtejccafolfeabaaGreatDoorZ1
import Derived.Test.YtejccafolfeabaaGreatDoorZ2
import Derived.Test.YtejccafolfeabaaGreatDoorZ3
import Derived.Test.YtejccafolfeabaaGreatDoorZ4
import Derived.Test.YtejccafolfeabaaGreatDoorYCross1
/-
  props.Cross, walked. (Printed by gen_cross.py.)
-/
namespace Go.Proofs.YtejccafolfeabaaGreatDoor
open Go.RowKit Go.Maps

/-- What Cross leaves. -/
def CrEnd (r : Except Int DbP) (e : Ending) (w' : World) : Prop :=
  match r with
  | .error k => e = .returned (.tuple #[.pointer none, .int .i64 k])
  | .ok d => ∃ p, e = .returned (.tuple #[.pointer (some ⟨p, 0, none⟩), .int .i64 0]) ∧ DbAt w' p d
theorem CrEnd.err {r : Except Int DbP} {k : Int} {w' : World} (h : r = .error k) : CrEnd r (.returned (.tuple #[.pointer none, .int .i64 k])) w' := by rw [h]; exact rfl
theorem CrEnd.fine {r : Except Int DbP} {d : DbP} {p : Nat} {w' : World} (h : r = .ok d) (hd : DbAt w' p d) : CrEnd r (.returned (.tuple #[.pointer (some ⟨p, 0, none⟩), .int .i64 0])) w' := by rw [h]; exact ⟨p, rfl, hd⟩

/-- What pairs leaves, the list of pairs by a name. -/
def PairT (T : List (Nat × Nat)) (a b : DbP) (base : Nat) (e : Ending) (w' : World) : Prop :=
  ∃ (g1 n1 c1 g2 c2 : Nat) (xs : List (Option Addr × Nat × Nat)) (S : List (List (Int × Int))), e = .returned (.tuple #[.slice (some ⟨g1, 0, none⟩) n1 c1, .slice (some ⟨g2, 0, none⟩) n1 c2]) ∧ T.length = n1 ∧ n1 ≤ 2228225 ∧
    Own w' base 104 2 (some ⟨g1, 0, none⟩) n1 c1 (T.map encTwo) ∧ Own w' base 37 1 (some ⟨g2, 0, none⟩) n1 c2 (xs.map encSl) ∧ Sets w' base xs S ∧
    ∀ (k : Nat) (p : Nat × Nat) (s : List (Int × Int)), T[k]? = some p → S[k]? = some s → normR s = setP a b p ∧ s.length ≤ 2228224
theorem step_upd {P : Program} {H : Type} {ops : Array Oper} {o : Oper} {a : Act} {w : World} {Kc : Act → World → Prop} {Q : Exit → Act → World → Prop} {E : Prop} (hgd : o.guard = none) (m x v : Operand) (t : TypeId) (hop : o.op = Op.mapUpdate t m x v)
    (k e : TypeId) (K : Keyed P k) (ht : P.underlying t = some (.map k e)) (R : Value → Option (DataW H × List MemPlace)) (b n : Nat) (D : DataW H)
    (hm : a.eval m = .map (some b)) (hown : w.ownsMap P k R b n D) (hn : n < maxLen) (key val : Value) (kl : Lit) (hx : a.eval x = key) (hv : a.eval v = val) (hkey : keyOf P k key = some kl)
    (d : DataW H) (ps : List MemPlace) (hval : R val = some (d, ps))
    (hK : ∀ w', w'.ownsMap P k R b (n + 1) (D.put kl d) → w.grownBy w' (some b) → Kc (a.put o.dst undef) w') :
    if Region.wanted o (yielded ops a.tmps) = true then Oper.wp P o a w Kc Q else E := by
  have hw : Region.wanted o (yielded ops a.tmps) = true := by simp [Region.wanted, hgd]
  rw [if_pos hw]
  obtain ⟨w', hrun, r1, r2⟩ := hown.update K ht hn hkey hval
  unfold Oper.wp
  simp [execOp, hop, hm, hx, hv, hrun, Result.andThen]
  exact hK w' r1 r2
theorem named_len {d : DbP} (h : d.Named) {i : Nat} {n : List UInt8} (hn : d.names[i]? = some n) : n.length ≤ 32 := by
  have := h n (List.mem_of_getElem? hn)
  cases n with
  | nil => simp
  | cons c r =>
    unfold nameL at this
    simp only [Bool.and_eq_true, decide_eq_true_eq] at this
    simp only [List.length_cons]
    omega
theorem cat_nm {x y : List UInt8} : bytesOf x ++ ⟨#[95]⟩ ++ bytesOf y = bytesOf (x ++ 95 :: y) := by
  apply ByteArray.ext; apply Array.toList_inj.1; simp [bytesOf]
set_option maxRecDepth 100000 in
set_option maxHeartbeats 16000000 in
theorem wCross_core (p q : Nat) (a b : DbP) (w : World) (hp : DbAt w p a) (hq : DbAt w q b) (na : a.Named) (nb : b.Named) (T : List (Nat × Nat)) (R : Except Int DbP) (HC0 : Hid (R = crossT a b T)) (h0 : 0 < T.length)
    (HL0 : Hid (∀ t, t ∈ T → t.1 < a.names.length ∧ t.2 < b.names.length)) (HOK : Hid (∀ d, R = .ok d → d.Ok ∧ Apart d.sets))
    (HP : Calls Tryz.prog 58 #[.pointer (some ⟨p, 0, none⟩), .pointer (some ⟨q, 0, none⟩)] w fun e w' => PairT T a b w.heap.size e w' ∧ Below w.heap.size w w') :
    Calls Tryz.prog 31 #[.pointer (some ⟨p, 0, none⟩), .pointer (some ⟨q, 0, none⟩)] w fun e w' => CrEnd R e w' ∧ Below w.heap.size w w' := by
  obtain ⟨is1, his1, hzs1, hzs2, hzs3⟩ := info_parts info_cloneS
  obtain ⟨iz1, hiz1, hzz1, hzz2, hzz3⟩ := info_parts (show (Tryz.prog.info? 37).map (fun i => (i.zero, i.size, i.bytes)) = some (some (.slice none 0 0), 1, 24) by kernel_rfl)
  have hmm := @run_makeMap Tryz.prog
  have HNa := Lib.hid (And.intro na nb)
  have HPh := Lib.hid HP
  clear HP
  go_enter Tryz.func31, Tryz.ntmps31
  go_wp2_with fail
  refine HPh.out.mono ?_
  rintro e w1 ⟨⟨g1, n1, c1, g2, c2, xs1, S1, rfl, hT, hn1, hA, hB, hS, hW⟩, hb1⟩
  have HC : Hid (R = crossT a b T) := HC0
  have HL : Hid (∀ t, t ∈ T → t.1 < a.names.length ∧ t.2 < b.names.length) := HL0
  have HW := Lib.hid hW
  have HTl := Lib.hid hT
  have hcap := hA.cap.1
  rw [hT] at h0
  have hpw := hp.below hb1
  have hqw := hq.below hb1
  clear na nb hW hp hq HC0 HL0
  by_cases hmany : 64 < n1
  · have hE : Hid (R = .error 6) := Lib.hid (by rw [HC.out]; exact crossT_many (by rw [HTl.out]; exact hmany))
    clear hT
    have d1 : decide (64 < n1) = true := decide_eq_true hmany
    go_wp2
    go_ret2
    exact ⟨CrEnd.err hE.out, hb1⟩
  have d1 : decide (64 < n1) = false := decide_eq_false hmany
  clear hT
  have hkey : keyOf Tryz.prog 9 (.string ⟨#[79, 116, 104, 101, 114]⟩) = some (.string otherL) := keyS (n := otherL) (by decide)
  have ho0 := World.ownsMap_made (H := Unit) (w1.alloc (.cells #[.string (bytesOf otherL)] 9)) Tryz.prog 9 (plainElem (H := Unit) Tryz.prog 3)
  rw [show (w1.alloc (.cells #[.string (bytesOf otherL)] 9)).heap.size = w1.heap.size + 1 by simp] at ho0
  by_cases hcs : c1 = 1
  · go_wp2_with ((refine wpList_insert_own _ rfl _ _ _ 67 rfl 9 3 keyedS Tryz.underlying67 _ (w1.heap.size + 1) 0 (.map []) rfl ho0 (by unfold maxLen; omega) _ _ (.string otherL) rfl rfl hkey _ [] (plainElem_int Tryz.underlying3 (WalkArith.wf_i64 (by omega))) ?_; intro w2 hown2 hg2))
    have hF := dbX_first rfl hown2 hg2
    have hg2s := hg2.size
    obtain ⟨hX0, hB0⟩ := hF
    generalize ((w2.alloc (.cells #[.slice none 0 0] 37)).alloc (.cells #[.slice (some ⟨w1.heap.size, 0, none⟩) 1 1, .map (some (w1.heap.size + 1)), .slice (some ⟨w2.heap.size, 0, none⟩) 1 1, .slice none 0 0] 70)) = w3 at hX0 hB0 ⊢
    have hX := hX0.low (x' := 0) (by obtain ⟨_, _, _, h⟩ := hA.form h0; omega)
    clear hX0 hown2 hg2 hg2s ho0 hmm hkey
    generalize w2.heap.size + 1 = P at hX ⊢
    obtain ⟨_, e1, hgB, hgw⟩ := hA.form h0
    injection e1 with e1; injection e1 with e1 _ _; subst e1
    go_wp2_with fail
    go_loopw [9, 10, 40] (fun lo tw v wr => ∃ (i : Nat) (N : List (List UInt8)) (S : List (List (Int × Int))) (bl bt : Bool), lo = .bool bl ∧ tw = .bool bt ∧ v = .int .i64 i ∧ i + 1 ≤ n1 ∧ Hid (CrossAt a b T i N S bl bt) ∧ DbB wr w1.heap.size P 0 ⟨N, S⟩ ∧ Below w1.heap.size w1 wr) (fun _ _ v _ => n1 - (intOf v).toNat)
    case atStart => exact ⟨0, [otherL], [[]], false, false, rfl, rfl, rfl, by omega, cross_at0 a b T, ⟨_, _, _, _, _, _, _, _, _, _, hX⟩, hB0⟩
    case round =>
      clear hX hB0
      obtain ⟨i, N, S, bl, bt, rfl, rfl, rfl, hi, HCr, hd, hb⟩ := hrel
      have hszr := hb.size
      by_cases hlt : i + 1 < n1
      · exact absurd hlt (by omega)
      · obtain rfl : i + 1 = n1 := by omega
        have HE := Lib.hid (cross_endAt HCr.out (by rw [HTl.out]; omega) (by rw [HTl.out]; exact hmany) (by rw [HTl.out]; exact Nat.le_refl _))
        have hbT := hb1.trans (hb.mono hb1.size)
        cases bl with
        | true =>
          have hE : Hid (R = .error 40) := Lib.hid (by rw [HC.out]; exact HE.out.2.2.1 rfl)
          go_wp2
          go_ret2
          exact ⟨CrEnd.err hE.out, hbT⟩
        | false =>
          cases bt with
          | true =>
            have hE : Hid (R = .error 8) := Lib.hid (by rw [HC.out]; exact HE.out.2.2.2.1 rfl rfl)
            go_wp2
            go_ret2
            exact ⟨CrEnd.err hE.out, hbT⟩
          | false =>
            have hE : Hid (R = .ok ⟨N, S⟩) := Lib.hid (by rw [HC.out]; exact HE.out.2.2.2.2 rfl rfl)
            have HCl := Lib.hid (wclose_any P w1.heap.size 0 ⟨N, S⟩ wr hd (HOK.out _ hE.out).1 (HOK.out _ hE.out).2 hszr)
            go_wp2_with (go_at_call 38; refine HCl.out.mono ?_; rintro e w5 ⟨rfl, hda, hb5⟩)
            go_ret2
            exact ⟨CrEnd.fine hE.out hda, hbT.trans (hb5.mono hb1.size)⟩
  · go_wp2_with ((refine wpList_insert_own _ rfl _ _ _ 67 rfl 9 3 keyedS Tryz.underlying67 _ (w1.heap.size + 1) 0 (.map []) rfl ho0 (by unfold maxLen; omega) _ _ (.string otherL) rfl rfl hkey _ [] (plainElem_int Tryz.underlying3 (WalkArith.wf_i64 (by omega))) ?_; intro w2 hown2 hg2))
    have hF := dbX_first rfl hown2 hg2
    have hg2s := hg2.size
    obtain ⟨hX0, hB0⟩ := hF
    generalize ((w2.alloc (.cells #[.slice none 0 0] 37)).alloc (.cells #[.slice (some ⟨w1.heap.size, 0, none⟩) 1 1, .map (some (w1.heap.size + 1)), .slice (some ⟨w2.heap.size, 0, none⟩) 1 1, .slice none 0 0] 70)) = w3 at hX0 hB0 ⊢
    have hX := hX0.low (x' := 0) (by obtain ⟨_, _, _, h⟩ := hA.form h0; omega)
    clear hX0 hown2 hg2 hg2s ho0 hmm hkey
    generalize w2.heap.size + 1 = P at hX ⊢
    obtain ⟨_, e1, hgB, hgw⟩ := hA.form h0
    injection e1 with e1; injection e1 with e1 _ _; subst e1
    go_wp2_with fail
    go_loopw [9, 10, 40] (fun lo tw v wr => ∃ (i : Nat) (N : List (List UInt8)) (S : List (List (Int × Int))) (bl bt : Bool), lo = .bool bl ∧ tw = .bool bt ∧ v = .int .i64 i ∧ i + 1 ≤ n1 ∧ Hid (CrossAt a b T i N S bl bt) ∧ DbB wr w1.heap.size P 0 ⟨N, S⟩ ∧ Below w1.heap.size w1 wr) (fun _ _ v _ => n1 - (intOf v).toNat)
    case atStart => exact ⟨0, [otherL], [[]], false, false, rfl, rfl, rfl, by omega, cross_at0 a b T, ⟨_, _, _, _, _, _, _, _, _, _, hX⟩, hB0⟩
    case round =>
      clear hX hB0
      obtain ⟨i, N, S, bl, bt, rfl, rfl, rfl, hi, HCr, hd, hb⟩ := hrel
      have hszr := hb.size
      by_cases hlt : i + 1 < n1
      · have hone : ¬ c1 = 1 := hcs
        have hdc : decide (i < n1 - 1) = true := decide_eq_true (by omega)
        obtain ⟨⟨pa, pb⟩, hti⟩ : ∃ t, T[i + 1]? = some t := ⟨_, List.getElem?_eq_getElem (show i + 1 < T.length by have := HTl.out; omega)⟩
        have hlp := HL.out _ (List.mem_of_getElem? hti)
        simp only at hlp
        obtain ⟨xa, hxa⟩ : ∃ x, a.names[pa]? = some x := ⟨_, List.getElem?_eq_getElem hlp.1⟩
        obtain ⟨xb, hxb⟩ : ∃ x, b.names[pb]? = some x := ⟨_, List.getElem?_eq_getElem hlp.2⟩
        have hnm : nmP a b (pa, pb) = xa ++ 95 :: xb := by unfold nmP; rw [List.getD_eq_getElem?_getD, List.getD_eq_getElem?_getD, hxa, hxb]; rfl
        have HCn := Lib.hid (cross_next HCr.out hti)
        rw [hnm] at HCn
        have hla := named_len HNa.out.1 hxa
        have hlb := named_len HNa.out.2 hxb
        have hsa : (bytesOf xa).size ≤ 32 := by rw [bytesOf_size]; exact hla
        have hsb : (bytesOf xb).size ≤ 32 := by rw [bytesOf_size]; exact hlb
        have ⟨k2, k3⟩ := (hA.below hb).cell2 hti
        rw [show (i + 1) * 2 = 2 + i * 2 by omega] at k2 k3
        simp only at k2 k3
        obtain ⟨An, nn, cn, bm, nm, D, As, ns, cs, xs, hX⟩ := hd.ex
        simp only at hX
        obtain ⟨zs, hzs⟩ : ∃ z, xs1[i + 1]? = some z := ⟨_, List.getElem?_eq_getElem (by have h1 := hB.len; rw [List.length_map] at h1; omega)⟩
        obtain ⟨sz, hsz⟩ : ∃ z, S1[i + 1]? = some z := ⟨_, List.getElem?_eq_getElem (by have h1 := hB.len; rw [List.length_map] at h1; have := hS.len; omega)⟩
        have HZ := Lib.hid (HW.out (i + 1) (pa, pb) sz hti hsz)
        have hoz : Own w1 w.heap.size 80 2 zs.1 zs.2.1 zs.2.2 (sz.map encR) := hS.own (i + 1) zs sz hzs hsz
        have hlz : sz.length = zs.2.1 := by simpa using hoz.len
        obtain ⟨_, e2, _, _⟩ := hB.form (by omega : 0 < n1)
        injection e2 with e2; injection e2 with e2 _ _; subst e2
        have cz0 := hB.cell' rfl (k := i + 1) hzs
        have Hti := Lib.hid hti
        have HZl := Lib.hid hlz
        clear hzs hsz hlz hti hnm hd
        go_wp2_with fail
        have hbp : Below wr.heap.size wr (wr.alloc (.cells #[.int .i64 (pa : Nat), .int .i64 (pb : Nat)] 104)) := (Below.refl _ _).alloc (Nat.le_refl _) _
        have B2 : Blk (wr.alloc (.cells #[.int .i64 (pa : Nat), .int .i64 (pb : Nat)] 104)) wr.heap.size 104 #[.int .i64 (pa : Nat), .int .i64 (pb : Nat)] := Blk.new wr 104 _
        generalize (wr.alloc (.cells #[.int .i64 (pa : Nat), .int .i64 (pb : Nat)] 104)) = wp at hbp B2 ⊢
        have hbw := hb.trans (hbp.mono hszr)
        obtain ⟨Aa, na', ca, ba, ma, Da, Asa, nsa, csa, xsa, Ara, nra, cra, a1, a2, _⟩ := (hpw.below hbw).ex
        obtain ⟨Ab, nb', cb, bb, mb, Db', Asb, nsb, csb, xsb, Arb, nrb, crb, b1, b2, _⟩ := (hqw.below hbw).ex
        have hna : a.names.length = na' := by simpa using a2.len
        have hnb : b.names.length = nb' := by simpa using b2.len
        obtain ⟨ga, e3, _, _⟩ := a2.form (by omega)
        obtain ⟨gb, e4, _, _⟩ := b2.form (by omega)
        subst e3; subst e4
        have hpa : pa < na' := by omega
        have hpb : pb < nb' := by omega
        have cA := a1.cell 0
        have cB := b1.cell 0
        have q0 := B2.cell 0
        have q1 := B2.cell 1
        have cAn := a2.cell (k := pa) (j := 0) (x := encNm xa) (u := .string (bytesOf xa)) (by rw [List.getElem?_map, hxa]; rfl) rfl
        have cBn := b2.cell (k := pb) (j := 0) (x := encNm xb) (u := .string (bytesOf xb)) (by rw [List.getElem?_map, hxb]; rfl) rfl
        simp only [List.getElem?_toArray, List.getElem?_cons_zero, List.getElem?_cons_succ, Nat.mul_one, Nat.add_zero] at cA cB q0 q1 cAn cBn
        clear hna hnb hxa hxb
        go_quiet (fail)
        rw [cat_nm]
        have hbq : Below wp.heap.size wp (wp.drewN nq) := below_refl_drewN _ _
        generalize wp.drewN nq = wq at hbq ⊢
        clear cA cB q0 q1 cAn cBn a1 a2 b1 b2 B2
        have hnl : (xa ++ 95 :: xb).length ≤ 65 := by simp; omega
        generalize xa ++ 95 :: xb = nm' at HCn hnl ⊢
        have hsn : (bytesOf nm').size = nm'.length := bytesOf_size nm'
        have hbq2 := below_two hbp hbq
        have hXq := hX.below hbq2
        have hKk := keyS (n := nm') (by omega)
        have HKk := Lib.hid hKk
        have hbwq := hb.trans (hbq2.mono hszr)
        have k0 := hXq.blk.cell 0
        have k1 := hXq.blk.cell 1
        simp only [List.getElem?_toArray, List.getElem?_cons_zero, List.getElem?_cons_succ] at k0 k1
        have hlS := hXq.lenS
        have hlN := hXq.lenN
        have hnle := hXq.nle
        obtain ⟨hNi, hSi⟩ : N.length = i + 1 ∧ S.length = i + 1 := by
          have h1 := HCr.out.names; have h2 := HCr.out.sets
          have h3 := crossN_len (a := a) (b := b) (T := T) (by rw [HTl.out]; omega)
          have h4 := crossS_len (a := a) (b := b) (T := T) (by rw [HTl.out]; omega)
          have h5 := HTl.out
          exact ⟨by rw [h1, List.length_take, h3, h5]; omega, by rw [h2, List.length_take, h4, h5]; omega⟩
        have hnn : nn ≤ 64 := by omega
        have hns : ns ≤ 64 := by omega
        have hcN : Hid ((nn : Int) = (N.length : Int)) := Lib.hid (by omega)
        have hszq := hbwq.size
        have hx0 : 0 < wq.heap.size := by omega
        have HV0 := Lib.hid (hXq.hD.2.1 nm')
        obtain ⟨r, HV⟩ : ∃ r, Hid (Maps.has D (.string nm') = r) := ⟨_, rfl⟩
        rw [HV.out] at HV0
        rw [← HV0.out] at HCn
        obtain ⟨f, hf, hfe⟩ : ∃ (f : Bool), ((bl = true ∧ f = true) ∨ (bl = false ∧ decide ((32 : Int) < (nm'.length : Int)) = f)) ∧ (bl || decide (32 < nm'.length)) = f := by
          cases bl
          · exact ⟨decide (32 < nm'.length), .inr ⟨rfl, decide_eq_decide.2 (by omega)⟩, rfl⟩
          · exact ⟨true, .inl ⟨rfl, rfl⟩, rfl⟩
        obtain ⟨g, hg, hge⟩ : ∃ (g : Bool), ((bt = true ∧ g = true) ∨ (bt = false ∧ r = g)) ∧ (bt || r) = g := by
          cases bt
          · exact ⟨_, .inr ⟨rfl, rfl⟩, rfl⟩
          · exact ⟨true, .inl ⟨rfl, rfl⟩, rfl⟩
        rw [hfe, hge] at HCn
        have hw1 : (IntKind.i64.wrap ((i : Int) + 1)) = (i : Int) + 1 := IntWalk.i64_in _ (by omega)
        have hw2 : ((i : Int) + 1).toNat = i + 1 := by omega
        have hw3 : 0 ≤ (i : Int) + 1 := by omega
        have HW1 := Lib.hid (And.intro hw1 (And.intro hw2 hw3))
        clear hKk hbp hbq hbq2 hX hNi hSi hlS hlN hbw hfe hge hw1 hw2 hw3
        have hXd := hXq.below (w' := wq.drew) ((Below.refl _ _).drew)
        obtain ⟨w8, hrun, hown8, hg8⟩ := hXd.hm.update (t := 67) (e := 3) keyedS Tryz.underlying67 (by unfold maxLen; omega) HKk.out (plainElem_int Tryz.underlying3 (WalkArith.wf_i64 (show -9223372036854775808 ≤ (nn : Int) ∧ (nn : Int) ≤ 9223372036854775807 by omega)))
        obtain ⟨bl8, on8, os8, ox8⟩ := hXd.mapped hg8
        have k80 := bl8.cell 0
        have hs8 := hg8.size
        simp only [List.getElem?_toArray, List.getElem?_cons_zero] at k80
        rcases hf with ⟨rfl, rfl⟩ | ⟨rfl, d32⟩ <;> rcases hg with ⟨rfl, rfl⟩ | ⟨rfl, rfl⟩
        all_goals
          go_wp2_with (at_lookup; refine wpList_lookup_own_ok_int _ rfl _ _ 67 rfl 9 3 .i64 keyedS Tryz.underlying67 Tryz.underlying3 (zeroI _) bm nm D rfl hXq.hm _ (.string nm') rfl HKk.out ?_; intro z hz hw; clear hz; rw [HV.out])
          go_region
          have hz8 : w1.heap.size ≤ w8.heap.size := Nat.le_trans hszq hs8
          go_wp2_with (at_builtin; refine wpList_app rfl (.tmp 96) (.tmp 98) _ rfl w1.heap.size 9 is1 _ 1 16 Tryz.underlying35 his1 hzs1 hzs2 hzs3 rfl (by omega) An nn cn (N.map encNm) rfl (on8.alloc _) _ 1 1 [encNm nm'] rfl rfl (Rd.newAt (by simp) rfl) (encNm_ok [nm']) (by unfold maxLen; omega) (by omega) (by simp; omega) ?_; intro A3 c3 w9 ho9 hg9 hA9; have HN9 := hXd.named hcN.out hown8 hg8 (by rw [List.map_append]; exact ho9) hg9 hA9 hx0 hszq; have k90 := HN9.1.cell 0; have f90 := HN9.1.frozen 0; simp only [List.getElem?_toArray, List.getElem?_cons_zero] at k90)
          obtain ⟨_, hXt, hKt, _⟩ := HN9
          have hbt : Below w1.heap.size w1 (w9.setCell ⟨P, 0, none⟩ (.slice A3 (nn + 1) c3)) := (hbwq.trans (((Below.refl _ _).drew).mono hszq)).trans hKt.1
          clear k90 f90 hg9 hA9 ho9 hown8 hg8 bl8 on8 os8 ox8 k80 hrun hXd hXq k0 k1 hKt
          generalize w9.setCell ⟨P, 0, none⟩ (.slice A3 (nn + 1) c3) = wt at hXt hbt ⊢
          have hszt := hbt.size
          have hx1 : 0 < wt.heap.size := by omega
          have k2 := hXt.blk.cell 2
          have cz := cell_keep cz0 hbt
          simp only [List.getElem?_toArray, List.getElem?_cons_zero, List.getElem?_cons_succ] at k2
          have HNm := Lib.hid (rNorm_any zs.1 zs.2.1 zs.2.2 sz wt.drew ((((hoz.below (hbt.mono (Nat.le_refl _))).more (Nat.zero_le _)).rd (by omega)).drew) HZl.out (by have := HZ.out.2; have := HZl.out; omega))
          obtain ⟨HW2, HW3, HW4⟩ := HW1.out
          have hXtd := hXt.below (w' := wt.drew) ((Below.refl _ _).drew)
          have hzs1' : zs.2.1 ≤ 2228224 := by have := HZ.out.2; have := HZl.out; omega
          have hI : (i : Int) + 1 < n1 := by omega
          refine wp_region_noPanic ?_
          go_region_law (first
            | (go_simp; go_at_call 59; refine HNm.out.mono ?_; rintro e wz ⟨A', n', c', rfl, ho', hb'⟩; have hXz := hXtd.below hb'; have kz2 := cell_keep (w := wt.drew) k2 hb'; have kzc := cell_keep (w := wt.drew) cz hb'; have hszz : wt.heap.size ≤ wz.heap.size := hb'.size; have kza := (hXz.blk.alloc (.cells #[.slice A' n' c'] 37)).cell 2; simp only [List.getElem?_toArray, List.getElem?_cons_zero, List.getElem?_cons_succ] at kza)
            | (refine step_app rfl (.tmp 106) (.tmp 113) _ rfl w1.heap.size 37 iz1 _ 1 24 Tryz.underlying68 hiz1 hzz1 hzz2 hzz3 rfl (by omega) As ns cs (xs.map encSl) rfl (hXz.hs.alloc _) _ 1 1 [encSl (A', n', c')] rfl rfl (Rd.newAt (by simp) rfl) (encSl_ok [(A', n', c')]) (by unfold maxLen; omega) (by omega) (by simp; omega) ?_; intro A6 c6 w11 ho11 hg11 hA11; have HM := hXz.moreSetL (y := (A', n', c')) ho' hszt (by rw [List.map_append]; exact ho11) hg11 hA11 (by omega) (by omega); have k110 := HM.1.cell 2; have f110 := HM.1.frozen 2; simp only [List.getElem?_toArray, List.getElem?_cons_zero, List.getElem?_cons_succ] at k110))
          all_goals
            refine NoPanic.normal ?_
            have hXn := HM.2.1
            have hbn : Below w1.heap.size w1 (w11.setCell ⟨P, 2, none⟩ (.slice A6 (ns + 1) c6)) := ((hbt.trans (((Below.refl _ _).drew).mono hszt)).trans (hb'.mono hszt)).trans HM.2.2.1
            rw [HZ.out.1] at hXn
            go_wp2
            go_roundw
            case rel => exact ⟨i + 1, N ++ [nm'], S ++ [setP a b (pa, pb)], _, _, rfl, rfl, by go_num, by omega, HCn, ⟨_, _, _, _, _, _, _, _, _, _, hXn⟩, hbn⟩
            case measure => simp [intOf]; omega
      · obtain rfl : i + 1 = n1 := by omega
        have HE := Lib.hid (cross_endAt HCr.out (by rw [HTl.out]; omega) (by rw [HTl.out]; exact hmany) (by rw [HTl.out]; exact Nat.le_refl _))
        have hbT := hb1.trans (hb.mono hb1.size)
        cases bl with
        | true =>
          have hE : Hid (R = .error 40) := Lib.hid (by rw [HC.out]; exact HE.out.2.2.1 rfl)
          go_wp2
          go_ret2
          exact ⟨CrEnd.err hE.out, hbT⟩
        | false =>
          cases bt with
          | true =>
            have hE : Hid (R = .error 8) := Lib.hid (by rw [HC.out]; exact HE.out.2.2.2.1 rfl rfl)
            go_wp2
            go_ret2
            exact ⟨CrEnd.err hE.out, hbT⟩
          | false =>
            have hE : Hid (R = .ok ⟨N, S⟩) := Lib.hid (by rw [HC.out]; exact HE.out.2.2.2.2 rfl rfl)
            have HCl := Lib.hid (wclose_any P w1.heap.size 0 ⟨N, S⟩ wr hd (HOK.out _ hE.out).1 (HOK.out _ hE.out).2 hszr)
            go_wp2_with (go_at_call 38; refine HCl.out.mono ?_; rintro e w5 ⟨rfl, hda, hb5⟩)
            go_ret2
            exact ⟨CrEnd.fine hE.out hda, hbT.trans (hb5.mono hb1.size)⟩
theorem wCross_any (p q : Nat) (a b : DbP) (w : World) (hp : DbAt w p a) (hq : DbAt w q b) (oa : a.Ok) (aa : Apart a.sets) (ob : b.Ok) (ab : Apart b.sets) (na : a.Named) (nb : b.Named) :
    Calls Tryz.prog 31 #[.pointer (some ⟨p, 0, none⟩), .pointer (some ⟨q, 0, none⟩)] w fun e w' => CrEnd (crossP a b) e w' ∧ Below w.heap.size w w' :=
  wCross_core p q a b w hp hq na nb (twoP a b) (crossP a b) (Lib.hid (crossP_eq rfl)) (two_pos a b rfl) (Lib.hid fun t ht => two_lt oa ob ht) (Lib.hid fun d hd => ⟨cross_ok (crossP_is hd), cross_apart oa aa ob ab (crossP_is hd)⟩)
    ((wpairs_any p q a b w hp hq oa aa ob ab).mono fun e w' h => ⟨by have h1 := h.1; unfold PairEnd at h1; unfold PairT; exact h1, h.2⟩)
end Go.Proofs.YtejccafolfeabaaGreatDoor

/-
  kerfref04: begins, sort, find, walked.
-/
namespace Go.Proofs.YtejccafolfeabaaGreatDoor
open Go.RowKit Go.Maps

def encI (r : Int) : List Value := [.int .i32 r]
theorem encI_ok (l : List Int) : ∀ y ∈ l.map encI, y.length = 1 ∧ ∀ u ∈ y, u.oneCell' = true := by
  intro y hy; obtain ⟨r, _, rfl⟩ := List.mem_map.1 hy
  exact ⟨rfl, by simp [encI, Value.oneCell']⟩
theorem Own.storedI {w : World} {base : Nat} {e : TypeId} {g n c k : Nat} {l : List Int} (h : Own w base e 1 (some ⟨g, 0, none⟩) n c (l.map encI)) (hk : k < l.length) (x : Int) :
    Own (w.setCell ⟨g, k, none⟩ (.int .i32 x)) base e 1 (some ⟨g, 0, none⟩) n c ((l.set k x).map encI) := by
  have h1 := h.stored (k := k) (j := 0) (x := encI l[k]) (by simp [hk]) (by omega) (.int .i32 x)
  rw [Nat.mul_one, Nat.add_zero] at h1
  have e : (l.map encI).set k ((encI l[k]).set 0 (.int .i32 x)) = (l.set k x).map encI := by rw [List.map_set]; rfl
  rw [e] at h1
  exact h1
theorem Own.cellI {w : World} {base : Nat} {e : TypeId} {g n c k : Nat} {l : List Int} {x : Int} (h : Own w base e 1 (some ⟨g, 0, none⟩) n c (l.map encI)) (hk : l[k]? = some x) : w.cell? ⟨g, k, none⟩ = some (.int .i32 x) := by
  have := h.cell (k := k) (j := 0) (x := encI x) (u := .int .i32 x) (by rw [List.getElem?_map, hk]; rfl) rfl
  simpa using this
set_option maxRecDepth 100000 in
set_option maxHeartbeats 2000000 in
theorem vbegins_any (A : Option Addr) (n c : Nat) (l : List (Int × Int)) (w : World) (hA : Rd w 2 A (l.map encR)) (hl : l.length = n) (hn : n ≤ 4000000) :
    Calls Tryz.prog 60 #[.slice A n c] w fun e w' => ∃ A' c', e = .returned (.slice A' n c') ∧ Own w' w.heap.size 21 1 A' n c' ((l.map (·.1)).map encI) ∧ Below w.heap.size w w' := by
  obtain ⟨i0, hi0, hz0, hz1, hz2⟩ := info_parts (show (Tryz.prog.info? 21).map (fun i => (i.zero, i.size, i.bytes)) = some (some (.int .i32 0), 1, 4) by kernel_rfl)
  have Hl := Lib.hid hl
  clear hl
  go_enter Tryz.func60, Tryz.ntmps60
  go_wp2
  go_loopw [3, 4] (fun a v wr => ∃ (k : Nat) (A1 : Option Addr) (c1 : Nat), a = .slice A1 k c1 ∧ v = .int .i64 k ∧ k ≤ n ∧ Own wr w.heap.size 21 1 A1 k c1 (((l.take k).map (·.1)).map encI) ∧ Below w.heap.size w wr) (fun _ v _ => n - (intOf v).toNat)
  case atStart => exact ⟨0, none, 0, rfl, rfl, by omega, Own.nil_ _ _ _ _, Below.refl _ _⟩
  case round =>
    obtain ⟨k, A1, c1, rfl, rfl, hk, ho, hb⟩ := hrel
    have hszr := hb.size
    by_cases hlt : k < n
    · obtain ⟨b, off, lo, hi, rfl, Hx, hx1, hx2⟩ := hA.atR (k := k) (by rw [Hl.out]; exact hlt)
      have q1 := cell_keep hx1 hb
      have HT := Lib.hid (show (l.take (k + 1)).map (·.1) = (l.take k).map (·.1) ++ [lo] by rw [List.take_add_one, Hx.out]; simp)
      go_wp2_with (at_builtin; go_must (refine wpList_app rfl (.tmp 11) (.tmp 17) _ rfl w.heap.size 21 i0 _ 1 4 Tryz.underlying24 hi0 hz0 hz1 hz2 rfl (by omega) A1 k c1 (((l.take k).map (·.1)).map encI) rfl (ho.alloc _) _ 1 1 [encI lo] rfl rfl (Rd.newAt (by simp) rfl) (encI_ok [lo]) (by unfold maxLen; omega) (by omega) (by simp; omega) ?_); intro A3 c3 w3 ho3 hg3 hA3)
      have Ho3 : Own w3 w.heap.size 21 1 A3 (k + 1) c3 (((l.take (k + 1)).map (·.1)).map encI) := by rw [HT.out, List.map_append]; exact ho3
      have hb3 := below_app (hb.alloc hszr _) hg3 (by simp; omega) (fun a ha => (ho.lt a ha).1)
      clear ho3 hg3
      go_roundw
      case rel => exact ⟨k + 1, A3, c3, rfl, by go_num, by omega, Ho3, hb3⟩
      case measure => simp [intOf]; omega
    · obtain rfl : k = n := by omega
      have HT := Lib.hid (show l.take k = l by rw [List.take_of_length_le (by rw [Hl.out]; omega)])
      rw [HT.out] at ho
      go_wp2
      go_ret
      exact ⟨A1, c1, rfl, ho, hb⟩
set_option maxRecDepth 100000 in
set_option maxHeartbeats 4000000 in
theorem vsort_any (B : Nat) (A : Option Addr) (n c : Nat) (l : List Int) (w : World) (h : Own w B 21 1 A n c (l.map encI)) (hn : n ≤ 4000000) :
    Calls Tryz.prog 61 #[.slice A n c] w fun e w' => e = .returned (.tuple #[]) ∧ ∃ l' : List Int, Hid (l'.Perm l) ∧ Hid (l'.Pairwise (· ≤ ·)) ∧ Own w' B 21 1 A n c (l'.map encI) ∧ Below B w w' := by
  rcases Nat.eq_zero_or_pos n with h0 | h0
  · subst h0
    obtain rfl : l = [] := by have := h.len; simpa using this
    go_enter Tryz.func61, Tryz.ntmps61
    go_wp2
    go_loopw [2] (fun v wr => v = .int .i64 1 ∧ wr = w) (fun _ _ => 0)
    case atStart => exact ⟨rfl, rfl⟩
    case round =>
      obtain ⟨rfl, rfl⟩ := hrel
      go_wp2
      first | exact ⟨_, results_none rfl _ _ _, rfl, [], List.Perm.refl _, List.Pairwise.nil, h, Below.refl _ _⟩ | exact ⟨rfl, _, results_none rfl _ _ _, rfl, [], List.Perm.refl _, List.Pairwise.nil, h, Below.refl _ _⟩
  obtain ⟨g, rfl, hgB, hgw⟩ := h.form h0
  have HL : Hid (l.length = n) := Lib.hid (by simpa using h.len)
  go_enter Tryz.func61, Tryz.ntmps61
  go_wp2
  go_loopw [2] (fun v wr => ∃ (i : Nat) (q : List Int), v = .int .i64 i ∧ 1 ≤ i ∧ i ≤ n ∧ Hid (q.Perm l ∧ RiseTo q i) ∧ Own wr B 21 1 (some ⟨g, 0, none⟩) n c (q.map encI) ∧ Below B w wr) (fun v _ => n - (intOf v).toNat)
  case atStart => exact ⟨1, l, rfl, by omega, by omega, Lib.hid ⟨List.Perm.refl _, rise_one l⟩, h, Below.refl _ _⟩
  case round =>
    clear h
    obtain ⟨i, q, rfl, hi1, hin, HQ, ho, hb⟩ := hrel
    by_cases hlt : i < n
    · have HS := Lib.hid (sink_first HQ.out.2 (show i < q.length by rw [HQ.out.1.length_eq, HL.out]; exact hlt))
      have HP := Lib.hid HQ.out.1
      clear HQ
      go_wp2_with fail
      go_loopw [3] (fun v wz => ∃ (k : Nat) (q : List Int), v = .int .i64 k ∧ k ≤ i ∧ Hid (q.Perm l) ∧ Hid (SinkAt q i k) ∧ Own wz B 21 1 (some ⟨g, 0, none⟩) n c (q.map encI) ∧ Below B w wz) (fun v _ => (intOf v).toNat)
      case atStart => exact ⟨i, q, rfl, by omega, HP, HS, ho, hb⟩
      case round =>
        clear ho hb HP HS
        obtain ⟨k, q, rfl, hki, HP, HS, ho, hb⟩ := hrel
        rcases Nat.eq_zero_or_pos k with hk0 | hk0
        · subst hk0
          have HE := Lib.hid (And.intro HP.out (sink_end HS.out (.inl rfl)))
          go_wp2_with fail
          go_quiet (fail)
          go_wp2
          go_roundw
          case rel => exact ⟨i + 1, q, by go_num, by omega, by omega, HE, ho.drewN _, below_drewN hb _⟩
          case measure => simp [intOf]; omega
        · obtain ⟨j, rfl⟩ : ∃ j, k = j + 1 := ⟨k - 1, by omega⟩
          have hql : q.length = n := by rw [HP.out.length_eq]; exact HL.out
          obtain ⟨x, hx⟩ : ∃ x, q[j]? = some x := ⟨_, List.getElem?_eq_getElem (show j < q.length by omega)⟩
          obtain ⟨y, hy⟩ : ∃ y, q[j + 1]? = some y := ⟨_, List.getElem?_eq_getElem (show j + 1 < q.length by omega)⟩
          have k1 := ho.cellI hx
          have k2 := ho.cellI hy
          have f1 := ho.frozen j
          have f2 := ho.frozen (j + 1)
          have Hx := Lib.hid hx
          have Hy := Lib.hid hy
          have Hql := Lib.hid hql
          clear hx hy hql
          by_cases hgt : y < x
          · have hdd : decide (y < x) = true := decide_eq_true hgt
            go_wp2_with fail
            go_quiet (fail)
            go_wp2_with fail
            go_region
            go_wp2
            go_roundw
            case rel =>
              refine ⟨j, (q.set j y).set (j + 1) x, rfl, by omega, Lib.hid ((perm_swap_at Hx.out Hy.out).trans HP.out), Lib.hid (sink_step HS.out Hx.out Hy.out hgt), ?_, ?_⟩
              · have e1 := (ho.drewN (nq + 1)).storedI (k := j) (by have := Hql.out; omega) y
                exact e1.storedI (k := j + 1) (by rw [List.length_set]; have := Hql.out; omega) x
              · exact ((below_drewN hb _).setCell hgB _).setCell hgB _
            case measure => simp [intOf]
          · have hdd : decide (y < x) = false := decide_eq_false hgt
            have HE := Lib.hid (And.intro HP.out (sink_end HS.out (.inr ⟨x, y, Hx.out, Hy.out, by omega⟩)))
            go_wp2_with fail
            go_quiet (fail)
            go_wp2
            go_roundw
            case rel => exact ⟨i + 1, q, by go_num, by omega, by omega, HE, ho.drewN _, below_drewN hb _⟩
            case measure => simp [intOf]; omega
    · obtain rfl : i = n := by omega
      have HE := Lib.hid (rise_all (l := q) (by rw [HQ.out.1.length_eq, HL.out]; exact HQ.out.2))
      go_wp2
      first | exact ⟨_, results_none rfl _ _ _, rfl, q, Lib.hid HQ.out.1, HE, ho, hb⟩ | exact ⟨rfl, _, results_none rfl _ _ _, rfl, q, Lib.hid HQ.out.1, HE, ho, hb⟩
def eqTwo (x y : Nat × Nat) : Bool := decide (x = y)
set_option maxRecDepth 100000 in
theorem eqlPair (a b a' b' : Int) (w : World) : (binOp .eql 107 (.agg #[.int .i64 a, .int .i64 b]) (.agg #[.int .i64 a', .int .i64 b'])).run Tryz.prog w = .ok (.bool (decide ((a, b) = (a', b')))) w := by
  have hS : Tryz.prog.underlying 107 = some (.struct (Tryz.prog.fieldsOf 107)) := by kernel_rfl
  have hp : Tryz.prog.stoodInHeld 107 = false := by kernel_rfl
  have u4 := Tryz.underlying3
  have a4 := Tryz.isAgg3
  have z4 := Tryz.sizeOf3
  rw [run_eql_struct, show (10000 : Nat) = 9999 + 1 from rfl, run_equalIn_agg w 9999 _ _ _ hS hp]
  simp only [Program.fieldsOf, Tryz.underlying107]
  go_simp
  by_cases h1 : a = a' <;> by_cases h2 : b = b' <;> simp [h1, h2]
theorem not_take {T : List (Nat × Nat)} {k : Nat} {p x : Nat × Nat} (h : p ∉ T.take k) (hx : T[k]? = some x) (hne : x ≠ p) : p ∉ T.take (k + 1) := by
  rw [List.take_add_one, hx]
  simp only [Option.toList_some, List.mem_append, List.mem_singleton]
  rintro (h1 | h1)
  · exact h h1
  · exact hne h1.symm

set_option maxRecDepth 100000 in
set_option maxHeartbeats 2000000 in
theorem vfind_any (A : Option Addr) (n c : Nat) (T : List (Nat × Nat)) (p : Nat × Nat) (w : World) (hA : Rd w 2 A (T.map encTwo)) (hl : T.length = n) (hn : n ≤ 4000000) :
    Calls Tryz.prog 62 #[.slice A n c, .agg #[.int .i64 p.1, .int .i64 p.2]] w fun e w' => ∃ z : Int, e = .returned (.int .i64 z) ∧ ((∃ i : Nat, z = i ∧ T[i]? = some p) ∨ (z = -1 ∧ p ∉ T)) ∧ Below w.heap.size w w' := by
  have Hl := Lib.hid hl
  clear hl
  go_enter Tryz.func62, Tryz.ntmps62
  have hA0 := hA.alloc (.cells #[.int .i64 p.1, .int .i64 p.2] 107)
  have B0 := Blk.new w 107 #[.int .i64 p.1, .int .i64 p.2]
  have hb0 : Below w.heap.size w (w.alloc (.cells #[.int .i64 p.1, .int .i64 p.2] 107)) := (Below.refl _ _).alloc (Nat.le_refl _) _
  go_wp2_with fail
  generalize w.alloc (.cells #[.int .i64 p.1, .int .i64 p.2] 107) = w0 at hA0 B0 hb0 ⊢
  have c0 := B0.cell 0
  have c1 := B0.cell 1
  simp only [List.getElem?_toArray, List.getElem?_cons_zero, List.getElem?_cons_succ] at c0 c1
  go_loopw [5] (fun v wr => ∃ k m : Nat, v = .int .i64 k ∧ k ≤ n ∧ Hid (p ∉ T.take k) ∧ wr = w0.drewN m) (fun v _ => n - (intOf v).toNat)
  case atStart => exact ⟨0, 0, rfl, by omega, Lib.hid (by simp), rfl⟩
  case round =>
    obtain ⟨k, m, rfl, hk, HN, rfl⟩ := hrel
    by_cases hlt : k < n
    · obtain ⟨x, Hx⟩ : ∃ x, Hid (T[k]? = some x) := ⟨_, Lib.hid (List.getElem?_eq_getElem (show k < T.length by have := Hl.out; omega))⟩
      obtain ⟨b, off, rfl, h1, h2⟩ := hA0.at2 Hx.out
      by_cases hxp : x = p
      · subst hxp
        have hq := fun W => eqlPair x.1 x.2 x.1 x.2 W
        simp only [decide_true] at hq
        go_wp2_with fail
        go_quiet (fail)
        go_wp2
        go_ret
        exact ⟨_, rfl, .inl ⟨k, rfl, Hx.out⟩, below_drewN (below_drewN hb0 _) _⟩
      · have hq := fun W => eqlPair x.1 x.2 p.1 p.2 W
        rw [decide_eq_false (show ¬ ((x.1 : Int), (x.2 : Int)) = ((p.1 : Int), (p.2 : Int)) from fun e => hxp (Prod.ext (by have := congrArg Prod.fst e; simp only at this; omega) (by have := congrArg Prod.snd e; simp only at this; omega)))] at hq
        have HN' := Lib.hid (not_take HN.out Hx.out hxp)
        clear hxp
        go_wp2_with fail
        go_quiet (fail)
        go_wp2
        go_roundw
        case rel => exact ⟨k + 1, _, by go_num, by omega, HN', by first | rfl | exact World.drewN_drewN _ _ _⟩
        case measure => simp [intOf]; omega
    · have HE := Lib.hid (show p ∉ T by have := HN.out; rwa [List.take_of_length_le (by rw [Hl.out]; omega)] at this)
      go_wp2
      go_ret
      exact ⟨_, rfl, .inr ⟨rfl, HE.out⟩, below_drewN hb0 _⟩
end Go.Proofs.YtejccafolfeabaaGreatDoor

/-
  kerfref04: Name, walked.
-/
namespace Go.Proofs.YtejccafolfeabaaGreatDoor
open Go.RowKit Go.Maps

set_option maxRecDepth 100000 in
set_option maxHeartbeats 4000000 in
theorem vName_any (l : List UInt8) (w : World) (hs : l.length ≤ 9223372036854775807) : Calls Tryz.prog 11 #[.string (bytesOf l)] w fun e w' => e = .returned (.bool (nameL l)) ∧ Below w.heap.size w w' := by
  have hsz : (bytesOf l).size = l.length := bytesOf_size l
  go_enter Tryz.func11, Tryz.ntmps11
  go_wp2
  have hbw : Below w.heap.size w w := Below.refl _ _
  go_loop [3] (fun i => ∃ k : Nat, i = .int .i64 k ∧ k ≤ l.length ∧ Hid (nameU (l.take k) = true)) (fun i => l.length - (intOf i).toNat)
  case atStart => exact ⟨0, rfl, by omega, rfl⟩
  case round =>
    obtain ⟨k, rfl, hk, Hm⟩ := hrel
    by_cases hlt : k < l.length
    · have hkl : k < (bytesOf l).size := by rw [hsz]; exact hlt
      have hc := index_at (bytesOf l) k k rfl hkl
      obtain ⟨c, hce⟩ : ∃ c, (bytesOf l)[k]'hkl = c := ⟨_, rfl⟩
      have Hc : Hid (l[k]? = some c) := Lib.hid (by have := get_list hkl; rw [bytesOf_list, hce] at this; exact this)
      have hcc : (((bytesOf l)[k]'hkl).toNat : Int) = (c.toNat : Int) := by rw [hce]
      rw [hce] at hc
      clear hce
      have HN := Lib.hid (nameU_next Hc.out Hm.out)
      have HE : Hid (nameU (l.take (k + 1)) = false → nameL l = false) := Lib.hid (fun h => by rw [nameL_eq, nameU_take h, Bool.false_and])
      have hc0 : 0 ≤ (c.toNat : Int) := by omega
      have hc255 : (c.toNat : Int) ≤ 255 := by have := c.toNat_lt; omega
      have HLT : Hid ((65 ≤ (c.toNat : Int) ∧ (c.toNat : Int) ≤ 90) ∨ (97 ≤ (c.toNat : Int) ∧ (c.toNat : Int) ≤ 122) → letB c = true ∧ partB c = true) := Lib.hid (fun h => ⟨letB_t (by omega), partB_t (by omega)⟩)
      have HLF : Hid (¬ ((65 ≤ (c.toNat : Int) ∧ (c.toNat : Int) ≤ 90) ∨ (97 ≤ (c.toNat : Int) ∧ (c.toNat : Int) ≤ 122)) → letB c = false) := Lib.hid (fun h => letB_f (by omega))
      have HPT : Hid ((48 ≤ (c.toNat : Int) ∧ (c.toNat : Int) ≤ 57) ∨ (c.toNat : Int) = 95 → partB c = true) := Lib.hid (fun h => partB_t (by omega))
      have HPF : Hid (¬ ((65 ≤ (c.toNat : Int) ∧ (c.toNat : Int) ≤ 90) ∨ (97 ≤ (c.toNat : Int) ∧ (c.toNat : Int) ≤ 122) ∨ (48 ≤ (c.toNat : Int) ∧ (c.toNat : Int) ≤ 57) ∨ (c.toNat : Int) = 95) → partB c = false) := Lib.hid (fun h => partB_f (by omega))
      generalize (c.toNat : Int) = z at hc hcc hc0 hc255 HLT HLF HPT HPF
      rcases Nat.eq_zero_or_pos k with rfl | h0
      · rcases (by omega : (65 ≤ z ∧ z ≤ 90) ∨ (97 ≤ z ∧ z ≤ 122) ∨ (z < 65 ∨ (90 < z ∧ z < 97) ∨ 122 < z)) with ⟨hq, hq'⟩ | ⟨hq, hq'⟩ | hq
        iterate 2
          · have HV : Hid (nameU (l.take (0 + 1)) = true) := Lib.hid (by rw [HN.out, if_pos rfl]; exact (HLT.out (by omega)).1)
            clear HLT HLF HPT HPF HN HE
            try first | (have d65 : decide (65 ≤ z) = true := decide_eq_true (by omega)) | (have d65 : decide (65 ≤ z) = false := decide_eq_false (by omega))
            try first | (have d90 : decide (z ≤ 90) = true := decide_eq_true (by omega)) | (have d90 : decide (z ≤ 90) = false := decide_eq_false (by omega))
            try first | (have d97 : decide (97 ≤ z) = true := decide_eq_true (by omega)) | (have d97 : decide (97 ≤ z) = false := decide_eq_false (by omega))
            try first | (have d122 : decide (z ≤ 122) = true := decide_eq_true (by omega)) | (have d122 : decide (z ≤ 122) = false := decide_eq_false (by omega))
            try first | (have d48 : decide (z < 48) = true := decide_eq_true (by omega)) | (have d48 : decide (z < 48) = false := decide_eq_false (by omega))
            try first | (have d57 : decide (57 < z) = true := decide_eq_true (by omega)) | (have d57 : decide (57 < z) = false := decide_eq_false (by omega))
            try first | (have d95 : (z != 95) = true := bne_iff_ne.2 (by omega)) | (have d95 : (z != 95) = false := by rw [bne_eq_false_iff_eq]; omega)
            go_wp2
            refine ⟨⟨0 + 1, by go_num, by omega, HV⟩, ?_⟩
            simp [intOf]; omega
        · have HV : Hid (nameL l = false) := Lib.hid (HE.out (by rw [HN.out, if_pos rfl]; exact HLF.out (by omega)))
          clear HLT HLF HPT HPF HN HE
          rcases hq with hq | ⟨hq, hq'⟩ | hq
          all_goals
            try first | (have d65 : decide (65 ≤ z) = true := decide_eq_true (by omega)) | (have d65 : decide (65 ≤ z) = false := decide_eq_false (by omega))
            try first | (have d90 : decide (z ≤ 90) = true := decide_eq_true (by omega)) | (have d90 : decide (z ≤ 90) = false := decide_eq_false (by omega))
            try first | (have d97 : decide (97 ≤ z) = true := decide_eq_true (by omega)) | (have d97 : decide (97 ≤ z) = false := decide_eq_false (by omega))
            try first | (have d122 : decide (z ≤ 122) = true := decide_eq_true (by omega)) | (have d122 : decide (z ≤ 122) = false := decide_eq_false (by omega))
            try first | (have d48 : decide (z < 48) = true := decide_eq_true (by omega)) | (have d48 : decide (z < 48) = false := decide_eq_false (by omega))
            try first | (have d57 : decide (57 < z) = true := decide_eq_true (by omega)) | (have d57 : decide (57 < z) = false := decide_eq_false (by omega))
            try first | (have d95 : (z != 95) = true := bne_iff_ne.2 (by omega)) | (have d95 : (z != 95) = false := by rw [bne_eq_false_iff_eq]; omega)
            go_wp2
            go_ret
            exact ⟨by rw [HV.out]; rfl, hbw⟩
      · have hk0 : ((k : Int) == 0) = false := beq_eq_false_iff_ne.2 (by omega)
        rcases (by omega : (65 ≤ z ∧ z ≤ 90) ∨ (97 ≤ z ∧ z ≤ 122) ∨ (48 ≤ z ∧ z ≤ 57) ∨ z = 95 ∨ (z < 48 ∨ (57 < z ∧ z < 65) ∨ (90 < z ∧ z < 95) ∨ z = 96 ∨ 122 < z)) with ⟨hq, hq'⟩ | ⟨hq, hq'⟩ | ⟨hq, hq'⟩ | hq | hq
        iterate 4
          · have HV : Hid (nameU (l.take (k + 1)) = true) := Lib.hid (by rw [HN.out, if_neg (by omega)]; first | exact (HLT.out (by omega)).2 | exact HPT.out (by omega))
            clear HLT HLF HPT HPF HN HE
            try first | (have d65 : decide (65 ≤ z) = true := decide_eq_true (by omega)) | (have d65 : decide (65 ≤ z) = false := decide_eq_false (by omega))
            try first | (have d90 : decide (z ≤ 90) = true := decide_eq_true (by omega)) | (have d90 : decide (z ≤ 90) = false := decide_eq_false (by omega))
            try first | (have d97 : decide (97 ≤ z) = true := decide_eq_true (by omega)) | (have d97 : decide (97 ≤ z) = false := decide_eq_false (by omega))
            try first | (have d122 : decide (z ≤ 122) = true := decide_eq_true (by omega)) | (have d122 : decide (z ≤ 122) = false := decide_eq_false (by omega))
            try first | (have d48 : decide (z < 48) = true := decide_eq_true (by omega)) | (have d48 : decide (z < 48) = false := decide_eq_false (by omega))
            try first | (have d57 : decide (57 < z) = true := decide_eq_true (by omega)) | (have d57 : decide (57 < z) = false := decide_eq_false (by omega))
            try first | (have d95 : (z != 95) = true := bne_iff_ne.2 (by omega)) | (have d95 : (z != 95) = false := by rw [bne_eq_false_iff_eq]; omega)
            go_wp2
            refine ⟨⟨k + 1, by go_num, by omega, HV⟩, ?_⟩
            simp [intOf]; omega
        · have HV : Hid (nameL l = false) := Lib.hid (HE.out (by rw [HN.out, if_neg (by omega)]; exact HPF.out (by omega)))
          clear HLT HLF HPT HPF HN HE
          rcases hq with hq | ⟨hq, hq'⟩ | ⟨hq, hq'⟩ | hq | hq
          all_goals
            try first | (have d65 : decide (65 ≤ z) = true := decide_eq_true (by omega)) | (have d65 : decide (65 ≤ z) = false := decide_eq_false (by omega))
            try first | (have d90 : decide (z ≤ 90) = true := decide_eq_true (by omega)) | (have d90 : decide (z ≤ 90) = false := decide_eq_false (by omega))
            try first | (have d97 : decide (97 ≤ z) = true := decide_eq_true (by omega)) | (have d97 : decide (97 ≤ z) = false := decide_eq_false (by omega))
            try first | (have d122 : decide (z ≤ 122) = true := decide_eq_true (by omega)) | (have d122 : decide (z ≤ 122) = false := decide_eq_false (by omega))
            try first | (have d48 : decide (z < 48) = true := decide_eq_true (by omega)) | (have d48 : decide (z < 48) = false := decide_eq_false (by omega))
            try first | (have d57 : decide (57 < z) = true := decide_eq_true (by omega)) | (have d57 : decide (57 < z) = false := decide_eq_false (by omega))
            try first | (have d95 : (z != 95) = true := bne_iff_ne.2 (by omega)) | (have d95 : (z != 95) = false := by rw [bne_eq_false_iff_eq]; omega)
            go_wp2
            go_ret
            exact ⟨by rw [HV.out]; rfl, hbw⟩
    · have HE : Hid (nameL l = decide (1 ≤ l.length ∧ l.length ≤ 32)) := Lib.hid (by rw [nameL_eq, show nameU l = true by have := Hm.out; rwa [List.take_of_length_le (by omega)] at this, Bool.true_and])
      rcases (by omega : l.length = 0 ∨ (1 ≤ l.length ∧ l.length ≤ 32) ∨ 32 < l.length) with h | ⟨h, h'⟩ | h
      all_goals
        go_wp2
        go_ret
        exact ⟨ret_bool (by rw [HE.out]; first | exact (decide_eq_false (by omega)).symm | exact (decide_eq_true (by omega)).symm | (rw [decide_eq_decide]; omega)), hbw⟩

end Go.Proofs.YtejccafolfeabaaGreatDoor

/-
  kerfref04: cut, Class, meet, walked.
-/
namespace Go.Proofs.YtejccafolfeabaaGreatDoor
open Go.RowKit Go.Maps

theorem ret_pair {a b c d : Value} (h1 : a = c) (h2 : b = d) : Ending.returned (.tuple #[a, b]) = .returned (.tuple #[c, d]) := by rw [h1, h2]
set_option maxRecDepth 100000 in
set_option maxHeartbeats 2000000 in
theorem vcut_any (L : List UInt8) (w : World) (hL : L.length ≤ 1000000) :
    Calls Tryz.prog 77 #[.string (bytesOf L)] w fun e w' => e = .returned (.tuple #[.string (bytesOf (L.take (hashP L))), .int .i64 (fv (findP 59 (L.take (hashP L))))]) ∧ Below w.heap.size w w' := by
  have HIS := Lib.hid (cutD_is L)
  have hsz : (bytesOf L).size = L.length := bytesOf_size L
  go_enter Tryz.func77, Tryz.ntmps77
  go_wp2
  go_loopw [4, 5] (fun a v wr => ∃ (semi : Option Nat) (i : Nat), a = .int .i64 (fv semi) ∧ v = .int .i64 i ∧ i ≤ L.length ∧ Hid (CutAt L i semi) ∧ Below w.heap.size w wr) (fun _ v _ => L.length - (intOf v).toNat)
  case atStart => exact ⟨none, 0, rfl, rfl, by omega, cutAt_first L, Below.refl _ _⟩
  case round =>
    obtain ⟨semi, i, rfl, rfl, hi, HC, hb⟩ := hrel
    by_cases hlt : i < L.length
    · have HQ := Lib.hid (sQuoted_any (bytesOf L) i wr (by omega) (by omega))
      have hqq := quoted_qt (bytesOf L) i (by omega)
      rw [bytesOf_list] at hqq
      have hp : i < (bytesOf L).size := by omega
      have hix := index_at (bytesOf L) i i rfl hp
      obtain ⟨x, hx⟩ : ∃ x, (bytesOf L)[i]'hp = x := ⟨_, rfl⟩
      have Hx : Hid (L[i]? = some x) := Lib.hid (by have := get_list hp; rw [bytesOf_list, hx] at this; exact this)
      have hgi : (((bytesOf L)[i]'hp).toNat : Int) = (x.toNat : Int) := by rw [hx]
      rw [hx] at hix
      clear hx
      cases hq : qtL (L.drop i) with
      | some k =>
        rw [hq] at hqq
        obtain ⟨q1, q2⟩ := hqq
        have HC' := Lib.hid (cutAt_qt HC.out hq)
        have hik : i + k ≤ L.length := HC'.out.1
        generalize quotedP (bytesOf L) i = Q at HQ q1 q2
        obtain ⟨r, wd, ok⟩ := Q
        simp only at q1 q2
        subst q1
        have hk3 := (qtL_some hq).1
        clear hq
        go_wp2_with (go_at_call 112; refine HQ.out.mono ?_; rintro e w2 ⟨rfl, hb2⟩)
        go_roundw
        case rel => exact ⟨semi, i + k, rfl, by go_num, hik, HC', below_step hb hb2 hb.size⟩
        case measure => simp [intOf]; omega
      | none =>
        rw [hq] at hqq
        generalize quotedP (bytesOf L) i = Q at HQ hqq
        obtain ⟨r, wd, ok⟩ := Q
        simp only at hqq
        subst hqq
        have h35 : x = 35 ↔ (x.toNat : Int) = 35 := by have h1 : x = 35 ↔ x.toNat = 35 := u8_eq (n := 35) (by omega); rw [h1]; omega
        have h59 : x = 59 ↔ (x.toNat : Int) = 59 := by have h1 : x = 59 ↔ x.toNat = 59 := u8_eq (n := 59) (by omega); rw [h1]; omega
        have HH := Lib.hid (fun h => cutAt_hash HC.out Hx.out hq (h35.2 h))
        have HS := Lib.hid (fun h hs => cutAt_semi HC.out Hx.out hq (h59.2 h) hs)
        have HGo := Lib.hid (fun (h : ¬ (x.toNat : Int) = 35) (hs : ¬ ((x.toNat : Int) = 59 ∧ semi = none)) => cutAt_go HC.out Hx.out hq (fun k => h (h35.1 k)) (fun k => hs ⟨h59.1 k.1, k.2⟩))
        generalize (x.toNat : Int) = z at hix hgi HH HS HGo
        clear h35 h59 hq
        rcases (by omega : z = 35 ∨ z = 59 ∨ (z ≠ 35 ∧ z ≠ 59)) with hz | hz | ⟨hz, hz'⟩
        · have HE := HH.out hz
          rw [HIS.out] at HE
          injection HE with HE1 HE2
          have HE1 := Lib.hid HE1
          have HE2 := Lib.hid HE2
          have hzz : (z == 35) = true := by rw [hz]; rfl
          clear hz HH HS HGo
          go_wp2_with (go_at_call 112; refine HQ.out.mono ?_; rintro e w2 ⟨rfl, hb2⟩)
          go_ret2
          have h1 := ext_bytes0 L i
          rw [← HE1.out] at h1
          exact ⟨ret_pair (congrArg Value.string (by first | exact h1 | (rw [HE1.out] at h1 ⊢; exact h1) | rfl)) (congrArg (Value.int .i64) (by rw [HE2.out])), below_step hb hb2 hb.size⟩
        · have hzz : (z == 35) = false := by rw [hz]; rfl
          have hzy : (z == 59) = true := by rw [hz]; rfl
          cases semi with
          | none =>
            have HC' := Lib.hid (HS.out hz rfl)
            have hfn : decide (fv none < 0) = true := rfl
            clear hz HH HS HGo
            go_wp2_with (go_at_call 112; refine HQ.out.mono ?_; rintro e w2 ⟨rfl, hb2⟩)
            go_roundw
            case rel => exact ⟨some i, i + 1, rfl, by go_num, by omega, HC', below_step hb hb2 hb.size⟩
            case measure => simp [intOf]; omega
          | some k =>
            have HC' := Lib.hid (HGo.out (by omega) (fun h => by cases h.2))
            have hfn : decide (fv (some k) < 0) = false := decide_eq_false (by simp only [fv]; omega)
            clear hz HH HS HGo
            go_wp2_with (go_at_call 112; refine HQ.out.mono ?_; rintro e w2 ⟨rfl, hb2⟩)
            go_roundw
            case rel => exact ⟨some k, i + 1, rfl, by go_num, by omega, HC', below_step hb hb2 hb.size⟩
            case measure => simp [intOf]; omega
        · have hzz : (z == 35) = false := beq_eq_false_iff_ne.2 hz
          have hzy : (z == 59) = false := beq_eq_false_iff_ne.2 hz'
          have HC' := Lib.hid (HGo.out hz (fun h => hz' h.1))
          clear hz hz' HH HS HGo
          go_wp2_with (go_at_call 112; refine HQ.out.mono ?_; rintro e w2 ⟨rfl, hb2⟩)
          go_roundw
          case rel => exact ⟨semi, i + 1, rfl, by go_num, by omega, HC', below_step hb hb2 hb.size⟩
          case measure => simp [intOf]; omega
    · have HE := cutAt_end HC.out hlt
      rw [HIS.out] at HE
      injection HE with HE1 HE2
      have HE1 := Lib.hid HE1
      have HE2 := Lib.hid HE2
      go_wp2
      go_ret2
      exact ⟨ret_pair (congrArg Value.string (by rw [HE1.out, List.take_length]; try rfl)) (by rw [HE2.out]; try rfl), hb⟩
end Go.Proofs.YtejccafolfeabaaGreatDoor

/-
  kerfref04: meet, walked.
-/
namespace Go.Proofs.YtejccafolfeabaaGreatDoor
open Go.RowKit Go.Maps

def hitR (x y : Int × Int) : Bool := decide (x.1 ≤ y.2) && decide (y.1 ≤ x.2)
theorem meetB_any (a b : List (Int × Int)) : meetB a b = a.any fun x => b.any fun y => hitR x y := rfl
theorem any_next {α : Type} {l : List α} {i : Nat} {x : α} {f : α → Bool} (h : (l.take i).any f = false) (hx : l[i]? = some x) (hf : f x = false) : (l.take (i + 1)).any f = false := by
  rw [List.take_add_one, hx]; simp [List.any_append, h, hf]
theorem any_hit {α : Type} {l : List α} {i : Nat} {x : α} {f : α → Bool} (hx : l[i]? = some x) (hf : f x = true) : l.any f = true := List.any_eq_true.2 ⟨x, List.mem_of_getElem? hx, hf⟩
theorem any_all {α : Type} {l : List α} {i : Nat} {f : α → Bool} (h : (l.take i).any f = false) (hi : ¬ i < l.length) : l.any f = false := by rwa [List.take_of_length_le (by omega)] at h
set_option maxRecDepth 100000 in
set_option maxHeartbeats 2000000 in
theorem vmeet_any (A B : Option Addr) (n c m e : Nat) (l q : List (Int × Int)) (w : World) (hA : Rd w 2 A (l.map encR)) (hB : Rd w 2 B (q.map encR)) (hl : l.length = n) (hq : q.length = m) (hn : n ≤ 4000000) (hm : m ≤ 4000000) :
    Calls Tryz.prog 81 #[.slice A n c, .slice B m e] w fun e w' => e = .returned (.bool (meetB l q)) ∧ ∃ k, w' = w.drewN k := by
  have Hl := Lib.hid hl
  have Hq := Lib.hid hq
  have HMB := Lib.hid (meetB_any l q)
  go_enter Tryz.func81, Tryz.ntmps81
  go_wp2
  go_loopw [5] (fun v wr => ∃ i k : Nat, v = .int .i64 i ∧ i ≤ n ∧ Hid ((l.take i).any (fun x => q.any fun y => hitR x y) = false) ∧ wr = w.drewN k) (fun v _ => n - (intOf v).toNat)
  case atStart => exact ⟨0, 0, rfl, by omega, by simp [Hid], rfl⟩
  case round =>
    obtain ⟨i, k, rfl, hi, HI, rfl⟩ := hrel
    by_cases hlt : i < n
    · obtain ⟨bA, oA, x1, x2, rfl, Hx, hx1, hx2⟩ := hA.atR (k := i) (by have := Hl.out; omega)
      have hdi : decide (i < n) = true := decide_eq_true hlt
      go_wp2_with fail
      go_loopw [6] (fun v wr => ∃ j k2 : Nat, v = .int .i64 j ∧ j ≤ m ∧ Hid ((q.take j).any (fun y => hitR (x1, x2) y) = false) ∧ wr = w.drewN k2) (fun v _ => m - (intOf v).toNat)
      case atStart => exact ⟨0, k, rfl, by omega, by simp [Hid], rfl⟩
      case round =>
        obtain ⟨j, k2, rfl, hj, HJ, rfl⟩ := hrel
        by_cases hltj : j < m
        · obtain ⟨bB, oB, y1, y2, rfl, Hy, hy1, hy2⟩ := hB.atR (k := j) (by have := Hq.out; omega)
          rcases (by omega : ¬ x1 ≤ y2 ∨ (x1 ≤ y2 ∧ ¬ y1 ≤ x2) ∨ (x1 ≤ y2 ∧ y1 ≤ x2)) with h1 | ⟨h1, h2⟩ | ⟨h1, h2⟩
          · have HJ' := Lib.hid (any_next HJ.out Hy.out (show hitR (x1, x2) (y1, y2) = false by simp [hitR, h1]))
            have hd1 : decide (x1 ≤ y2) = false := decide_eq_false h1
            go_wp2_with fail
            go_quiet (fail)
            go_wp2
            go_roundw
            case rel => exact ⟨j + 1, _, by go_num, by omega, HJ', by first | rfl | exact World.drewN_drewN _ _ _⟩
            case measure => simp [intOf]; omega
          · have HJ' := Lib.hid (any_next HJ.out Hy.out (show hitR (x1, x2) (y1, y2) = false by simp [hitR, h2]))
            have hd1 : decide (x1 ≤ y2) = true := decide_eq_true h1
            have hd2 : decide (y1 ≤ x2) = false := decide_eq_false h2
            go_wp2_with fail
            go_quiet (fail)
            go_wp2
            go_roundw
            case rel => exact ⟨j + 1, _, by go_num, by omega, HJ', by first | rfl | exact World.drewN_drewN _ _ _⟩
            case measure => simp [intOf]; omega
          · have HE : Hid (meetB l q = true) := Lib.hid (by rw [HMB.out]; exact any_hit Hx.out (any_hit Hy.out (show hitR (x1, x2) (y1, y2) = true by simp [hitR, h1, h2])))
            have hd1 : decide (x1 ≤ y2) = true := decide_eq_true h1
            have hd2 : decide (y1 ≤ x2) = true := decide_eq_true h2
            go_wp2_with fail
            go_quiet (fail)
            go_wp2
            go_ret
            exact ⟨by rw [HE.out]; rfl, _, by first | rfl | exact World.drewN_drewN _ _ _⟩
        · have HI' := Lib.hid (any_next HI.out Hx.out (any_all HJ.out (show ¬ j < q.length by have := Hq.out; omega)))
          go_wp2
          go_roundw
          case rel => exact ⟨i + 1, k2, by go_num, by omega, HI', rfl⟩
          case measure => simp [intOf]; omega
    · have HE : Hid (meetB l q = false) := Lib.hid (by rw [HMB.out]; exact any_all HI.out (show ¬ i < l.length by have := Hl.out; omega))
      go_wp2
      go_ret
      exact ⟨by rw [HE.out]; rfl, k, rfl⟩
end Go.Proofs.YtejccafolfeabaaGreatDoor

/-
  kerfref04: spaced, Lines, walked.
-/
namespace Go.Proofs.YtejccafolfeabaaGreatDoor
open Go.RowKit Go.Maps

/-- A block of bytes that can be written. -/
structure Byt (w : World) (b : Nat) (L : List UInt8) : Prop where
  cell : ∀ j (h : j < L.length), w.cell? ⟨b, j, none⟩ = some (.int .u8 ((L[j]'h).toNat : Int))
  free : ∀ j, j < L.length → w.frozen? ⟨b, j, none⟩ = false
theorem Byt.set_ {w : World} {b : Nat} {L : List UInt8} (h : Byt w b L) {i : Nat} (hi : i < L.length) (c : UInt8) (v : Int) (hv : v = (c.toNat : Int)) : Byt (w.setCell ⟨b, i, none⟩ (.int .u8 v)) b (L.set i c) := by
  subst hv
  refine ⟨fun j hj => ?_, fun j hj => ?_⟩
  · rw [List.length_set] at hj
    by_cases e : i = j
    · subst e
      rw [World.cell?_setCell_same _ _ _ (h.cell i hi)]; simp
    · rw [World.cell?_setCell_other _ _ _ _ (fun k => e (by injection k)), h.cell j hj]; simp [List.getElem_set_ne e]
  · rw [List.length_set] at hj
    rw [World.frozen?_setCell]; exact h.free j hj
theorem byt_world (w : World) (l : List UInt8) : Byt (Lib.bytesWorld w 5 (bytesOf l)) w.heap.size l := by
  refine ⟨fun j hj => ?_, fun j hj => ?_⟩
  · have h1 := Lib.bytesWorld_cell w 5 (bytesOf l) j (by rw [bytesOf_size]; exact hj)
    rw [bytesOf_list, List.getD_eq_getElem?_getD, List.getElem?_eq_getElem hj] at h1
    exact h1
  · unfold World.frozen?
    rw [Lib.bytesWorld_at_new]
    have hc : l.length ≤ (Lib.bytesCells w 5 (bytesOf l)).size := by
      simp [Lib.bytesCells]
      rw [bytesOf_size]; omega
    simp; omega
set_option maxRecDepth 100000 in
set_option maxHeartbeats 2000000 in
theorem vspaced_any (l : List UInt8) (w : World) (hs : l.length ≤ 1000000) : Calls Tryz.prog 80 #[.string (bytesOf l)] w fun e w' => e = .returned (.string (bytesOf (spcL l))) ∧ Below w.heap.size w w' := by
  have hcv := fun W => Lib.run_convert_string_bytes (P := Tryz.prog) W 9 66 5 (bytesOf l) Tryz.underlying9 Tryz.underlying66 Tryz.underlying5
  have hsz : (bytesOf l).size = l.length := bytesOf_size l
  have Hlen : Hid ((spcL l).length = l.length) := Lib.hid (by unfold spcL; rw [List.length_map])
  go_enter Tryz.func80, Tryz.ntmps80
  go_wp2
  have hby := byt_world w l
  have hbw := below_bytesWorld w 5 (bytesOf l)
  generalize Lib.bytesWorld w 5 (bytesOf l) = w1 at hby hbw ⊢
  clear hcv
  go_loopw [4] (fun v wr => ∃ i : Nat, v = .int .i64 i ∧ i ≤ l.length ∧ Byt wr w.heap.size ((spcL l).take i ++ l.drop i) ∧ Below w.heap.size w wr) (fun v _ => l.length - (intOf v).toNat)
  case atStart => exact ⟨0, rfl, by omega, by simpa using hby, hbw⟩
  case round =>
    clear hby hbw
    obtain ⟨i, rfl, hi, hB, hb⟩ := hrel
    have hll : ((spcL l).take i ++ l.drop i).length = l.length := by rw [List.length_append, List.length_take, List.length_drop, Hlen.out]; omega
    by_cases hlt : i < l.length
    · obtain ⟨x, Hx⟩ : ∃ x, Hid (l[i]? = some x) := ⟨_, Lib.hid (List.getElem?_eq_getElem hlt)⟩
      have hgx : ((spcL l).take i ++ l.drop i)[i]'(by omega) = x := by
        have h1 : ((spcL l).take i ++ l.drop i)[i]? = some x := by
          rw [List.getElem?_append_right (by rw [List.length_take, Hlen.out]; omega), List.length_take, Hlen.out, Nat.min_eq_left (by omega), Nat.sub_self, List.getElem?_drop]; exact Hx.out
        obtain ⟨_, h2⟩ := List.getElem?_eq_some_iff.1 h1
        exact h2
      have hc := hB.cell i (by omega)
      rw [hgx] at hc
      have hf := hB.free i (by omega)
      have hnext : ∀ y, y = (if x = 9 then 32 else x) → ((spcL l).take i ++ l.drop i).set i y = (spcL l).take (i + 1) ++ l.drop (i + 1) := fun y hy => by
        have h1 : (spcL l)[i]? = some y := by unfold spcL; rw [List.getElem?_map, Hx.out, hy]; rfl
        rw [drop_at Hx.out, List.take_add_one, h1]
        have h2 : ((spcL l).take i).length = i := by rw [List.length_take, Hlen.out]; omega
        have h3 := set_mid ((spcL l).take i) x y (l.drop (i + 1))
        rw [h2] at h3
        rw [h3]; simp
      by_cases hx9 : x = 9
      · have hz : ((x.toNat : Int) == 9) = true := by rw [hx9]; rfl
        have HN := Lib.hid (hnext 32 (by rw [if_pos hx9]))
        have HB := Lib.hid (hB.set_ (i := i) (by omega) 32 32 rfl)
        rw [HN.out] at HB
        clear hnext hx9 hgx
        go_wp2
        go_roundw
        case rel => exact ⟨i + 1, by go_num, by omega, HB.out, hb.setCell (p := ⟨w.heap.size, i, none⟩) (Nat.le_refl _) _⟩
        case measure => simp [intOf]; omega
      · have hz : ((x.toNat : Int) == 9) = false := beq_eq_false_iff_ne.2 (fun e => hx9 ((u8_eq (n := 9) (by omega)).2 (by omega)))
        have HN := Lib.hid (hnext x (by rw [if_neg hx9]))
        have hsame : ((spcL l).take i ++ l.drop i).set i x = (spcL l).take i ++ l.drop i := by
          conv => lhs; rw [← hgx]
          exact List.set_getElem_self _
        rw [hsame] at HN
        clear hnext hx9 hgx hsame
        go_wp2
        go_roundw
        case rel => exact ⟨i + 1, by go_num, by omega, by rw [← HN.out]; exact hB, hb⟩
        case measure => simp [intOf]; omega
    · have HE : Hid ((spcL l).take i ++ l.drop i = spcL l) := Lib.hid (by rw [List.take_of_length_le (by rw [Hlen.out]; omega), List.drop_of_length_le (by omega), List.append_nil])
      rw [HE.out] at hB
      have hcb := fun c => run_convert_bytes_back (P := Tryz.prog) wr 66 9 5 ⟨w.heap.size, 0, none⟩ c (spcL l) Tryz.underlying66 Tryz.underlying5 Tryz.underlying9 (fun k hk => by
        have e : (⟨w.heap.size, 0, none⟩ : Addr).add k = ⟨w.heap.size, k, none⟩ := by
          unfold Addr.add
          split
          · rename_i h0; rw [h0]
          · simp
        rw [e]; exact hB.cell k hk)
      rw [Hlen.out] at hcb
      go_wp2
      go_ret
      exact ⟨rfl, hb⟩
theorem take_sub {l : List UInt8} {a b : Nat} : (bytesOf l).extract a b = bytesOf ((l.drop a).take (b - a)) := ext_bytes2 l a b
set_option maxRecDepth 100000 in
set_option maxHeartbeats 2000000 in
theorem vLines_any (t : List UInt8) (w : World) (ht : t.length ≤ 1000000) :
    Calls Tryz.prog 39 #[.string (bytesOf t)] w fun e w' => ∃ A n c, e = .returned (.slice A n c) ∧ Own w' w.heap.size 9 1 A n c ((splitL t).map encNm) ∧ Below w.heap.size w w' := by
  obtain ⟨i0, hi0, hz0, hz1, hz2⟩ := info_parts info_cloneS
  have hsz : (bytesOf t).size = t.length := bytesOf_size t
  go_enter Tryz.func39, Tryz.ntmps39
  go_wp2
  go_loopw [3, 4, 5] (fun a f v wr => ∃ (i frm : Nat) (done : List (List UInt8)) (A : Option Addr) (n c : Nat), a = .slice A n c ∧ f = .int .i64 frm ∧ v = .int .i64 i ∧ i ≤ t.length ∧ n ≤ i ∧ frm ≤ i ∧ Hid (LinesAt t i frm done) ∧ Own wr w.heap.size 9 1 A n c (done.map encNm) ∧ Below w.heap.size w wr) (fun _ _ v _ => t.length - (intOf v).toNat)
  case atStart => exact ⟨0, 0, [], none, 0, 0, rfl, rfl, rfl, by omega, by omega, by omega, LinesAt.start t, Own.nil_ _ _ _ _, Below.refl _ _⟩
  case round =>
    obtain ⟨i, frm, done, A, n, c, rfl, rfl, rfl, hi, hni, hfi, HL, ho, hb⟩ := hrel
    have hszr := hb.size
    by_cases hlt : i < t.length
    · have hp : i < (bytesOf t).size := by omega
      have hix := index_at (bytesOf t) i i rfl hp
      obtain ⟨x, hx⟩ : ∃ x, (bytesOf t)[i]'hp = x := ⟨_, rfl⟩
      have Hx : Hid (t[i]? = some x) := Lib.hid (by have := get_list hp; rw [bytesOf_list, hx] at this; exact this)
      have hgi : (((bytesOf t)[i]'hp).toNat : Int) = (x.toNat : Int) := by rw [hx]
      rw [hx] at hix
      clear hx
      by_cases hx10 : x = 10
      · have hz : ((x.toNat : Int) == 10) = true := by rw [hx10]; rfl
        have HL' := Lib.hid (LinesAt.line HL.out (by rw [Hx.out, hx10]))
        have HX := Lib.hid (take_sub (l := t) (a := frm) (b := i))
        clear hx10
        go_wp2_with (at_builtin; go_must (refine wpList_app rfl (.tmp 16) (.tmp 21) _ rfl w.heap.size 9 i0 _ 1 16 Tryz.underlying35 hi0 hz0 hz1 hz2 rfl (by omega) A n c (done.map encNm) rfl (ho.alloc _) _ 1 1 [encNm ((t.drop frm).take (i - frm))] rfl rfl (Rd.newAt (by simp) (by simp [encNm, HX.out])) (encNm_ok [(t.drop frm).take (i - frm)]) (by unfold maxLen; omega) (by omega) (by simp; omega) ?_); intro A3 c3 w3 ho3 hg3 hA3; have hb3 := below_app (hb.alloc (by omega) _) hg3 (by simp; omega) (fun a ha => (ho.lt a ha).1); clear hg3)
        have Ho3 : Own w3 w.heap.size 9 1 A3 (n + 1) c3 ((done ++ [(t.drop frm).take (i - frm)]).map encNm) := by rw [List.map_append]; exact ho3
        clear ho3
        go_roundw
        case rel => exact ⟨i + 1, i + 1, _, A3, n + 1, c3, rfl, by go_num, by go_num, by omega, by omega, by omega, HL', Ho3, hb3⟩
        case measure => simp [intOf]; omega
      · have hz : ((x.toNat : Int) == 10) = false := beq_eq_false_iff_ne.2 (fun e => hx10 ((u8_eq (n := 10) (by omega)).2 (by omega)))
        have HL' := Lib.hid (LinesAt.byte HL.out Hx.out hx10)
        clear hx10
        go_wp2
        go_roundw
        case rel => exact ⟨i + 1, frm, done, A, n, c, rfl, rfl, by go_num, by omega, by omega, by omega, HL', ho, hb⟩
        case measure => simp [intOf]; omega
    · obtain rfl : i = t.length := by omega
      have HE := Lib.hid (LinesAt.done HL.out)
      have HX := Lib.hid (ext_bytes t frm)
      rw [hsz] at HX
      go_wp2_with (at_builtin; go_must (refine wpList_app rfl (.tmp 25) (.tmp 29) _ rfl w.heap.size 9 i0 _ 1 16 Tryz.underlying35 hi0 hz0 hz1 hz2 rfl (by omega) A n c (done.map encNm) rfl (ho.alloc _) _ 1 1 [encNm (t.drop frm)] rfl rfl (Rd.newAt (by simp) (by simp [encNm, HX.out])) (encNm_ok [t.drop frm]) (by unfold maxLen; omega) (by omega) (by simp; omega) ?_); intro A3 c3 w3 ho3 hg3 hA3; have hb3 := below_app (hb.alloc (by omega) _) hg3 (by simp; omega) (fun a ha => (ho.lt a ha).1); clear hg3)
      go_ret
      exact ⟨A3, n + 1, c3, rfl, by rw [HE.out, List.map_append]; exact ho3, hb3⟩
end Go.Proofs.YtejccafolfeabaaGreatDoor

/-
  kerfref04.(*Db).line, walked.
-/
namespace Go.Proofs.YtejccafolfeabaaGreatDoor
open Go.RowKit Go.Maps

/-- What a line leaves. -/
def LineEnd (base p x : Nat) (r : Except Int DbP) (e : Ending) (w' : World) : Prop :=
  match r with
  | .error k => e = .returned (.int .i64 k)
  | .ok d' => e = .returned (.int .i64 0) ∧ RfB w' base p x d'.names d'.sets
theorem LineEnd.err {base p x : Nat} {r : Except Int DbP} {k : Int} {w' : World} (h : r = .error k) : LineEnd base p x r (.returned (.int .i64 k)) w' := by rw [h]; exact rfl
theorem LineEnd.fine {base p x : Nat} {r : Except Int DbP} {d : DbP} {w' : World} (h : r = .ok d) (hd : RfB w' base p x d.names d.sets) : LineEnd base p x r (.returned (.int .i64 0)) w' := by rw [h]; exact ⟨rfl, hd⟩
theorem stepD_nil {d : DbP} {L : List UInt8} (h : trimL (L.take (hashP L)) = []) : stepL d L = .ok d := by
  rw [stepL_doc]; unfold lineD; simp only [h, if_true]
theorem stepD_add {d : DbP} {L : List UInt8} (h : trimL (L.take (hashP L)) ≠ []) : stepL d L = addS d (L.take (hashP L)) := by
  rw [stepL_doc]; unfold lineD addS; simp only [if_neg h]
  cases findP 59 (L.take (hashP L)) with
  | none => rfl
  | some j => rfl
theorem clash_one {d : DbP} {c : Nat} {l : List (Int × Int)} (h : d.Ok) : ClashAt d c l 1 := fun q hq hqc => by
  obtain rfl : q = 0 := by omega
  have := h.head'
  rw [List.head?_eq_getElem?] at this
  rw [List.getD_eq_getElem?_getD, this]; rfl

set_option maxRecDepth 100000 in
set_option maxHeartbeats 8000000 in
theorem vline_any (p base x : Nat) (d : DbP) (L : List UInt8) (w : World) (hd : RfB w base p x d.names d.sets) (ho : d.Ok) (hx : x < w.heap.size) (hB : base ≤ w.heap.size) (hL : L.length ≤ 65536) :
    Calls Tryz.prog 40 #[.pointer (some ⟨p, 0, none⟩), .string (bytesOf L)] w fun e w' => KX base x w w' ∧ LineEnd base p x (stepL d L) e w' := by
  obtain ⟨An, nn, cn, As, ns, cs, xs, hX⟩ := hd.ex
  have hns0 : nn = ns := by have := ho.len; have h1 := hX.lenN; have h2 := hX.lenS; omega
  subst hns0
  obtain ⟨is1, his1, hzs1, hzs2, hzs3⟩ := info_parts info_cloneS
  obtain ⟨iz1, hiz1, hzz1, hzz2, hzz3⟩ := info_parts (show (Tryz.prog.info? 37).map (fun i => (i.zero, i.size, i.bytes)) = some (some (.slice none 0 0), 1, 24) by kernel_rfl)
  have HCU := Lib.hid (vcut_any L w (by omega))
  have HNIL := Lib.hid (@stepD_nil d L)
  have HADD := Lib.hid (@stepD_add d L)
  obtain ⟨u, Hu⟩ : ∃ u, Hid (L.take (hashP L) = u) := ⟨_, rfl⟩
  have hu : u.length ≤ 65536 := by rw [← Hu.out, List.length_take]; omega
  rw [Hu.out] at HCU HNIL HADD
  have hsz : (bytesOf u).size = u.length := bytesOf_size u
  have HTU := Lib.hid (fun W => vtrim_any u W (by omega))
  have HO := Lib.hid ho
  clear ho
  by_cases hnil : trimL u = []
  · have HE := Lib.hid (HNIL.out hnil)
    have hem : (bytesOf (trimL u)).toList.isEmpty = true := by rw [ByteArray.toList_eq, bytesOf_list, hnil]; rfl
    clear hnil
    go_enter Tryz.func40, Tryz.ntmps40
    go_wp2_with fail
    refine HCU.out.mono ?_
    rintro e w2 ⟨rfl, hb2⟩
    go_wp2_with fail
    refine (HTU.out w2).mono ?_
    rintro e w3 ⟨rfl, rfl⟩
    go_wp2
    go_ret
    exact ⟨KX.below hb2 hB, LineEnd.fine HE.out (RfB.below ⟨_, _, _, _, _, _, _, hX⟩ hb2)⟩
  · have HST := Lib.hid (HADD.out hnil)
    have hem : (bytesOf (trimL u)).toList.isEmpty = false := by
      rw [ByteArray.toList_eq, bytesOf_list]
      cases hq : trimL u with
      | nil => exact absurd hq hnil
      | cons a b => rfl
    clear hnil HNIL HADD
    cases hq : findP 59 u with
    | none =>
      have HE := Lib.hid (HST.out.trans (addS_none (d := d) hq))
      rw [hq] at HCU
      clear hq
      go_enter Tryz.func40, Tryz.ntmps40
      go_wp2_with fail
      refine HCU.out.mono ?_
      rw [show fv none = -1 from rfl]
      rintro e w2 ⟨rfl, hb2⟩
      go_wp2_with fail
      refine (HTU.out w2).mono ?_
      rintro e w3 ⟨rfl, rfl⟩
      go_wp2
      go_ret
      exact ⟨KX.below hb2 hB, LineEnd.err HE.out⟩
    | some j =>
      rw [hq] at HCU
      have hj : j < u.length := (List.getElem?_eq_some_iff.1 (findP_lt (c := 59) _ u (Nat.le_refl _) j hq)).1
      obtain ⟨n, Hn⟩ : ∃ n, Hid (trimL (u.drop (j + 1)) = n) := ⟨_, rfl⟩
      have hnl : n.length ≤ 65536 := by have := Hn.out; have := trimL_len (u.drop (j + 1)); rw [List.length_drop] at this; rw [← Hn.out]; omega
      have HTR := Lib.hid (fun W => vtrim_any (u.drop (j + 1)) W (by rw [List.length_drop]; omega))
      have HX1 := Lib.hid (ext_bytes u (j + 1))
      rw [hsz] at HX1
      rw [← HX1.out, Hn.out] at HTR
      have HRP := Lib.hid (fun W => vspaced_any (u.take j) W (by rw [List.length_take]; omega))
      rw [← ext_bytes0] at HRP
      have HNM := Lib.hid (addS_name (d := d) hq)
      have HPA := Lib.hid (fun hn e => addS_parse (d := d) hq hn (e := e))
      have HMA := Lib.hid (fun hn l hp e => addS_many (d := d) hq hn (l := l) hp (e := e))
      have HCL := Lib.hid (fun hn l hp c hm => addS_clash (d := d) hq hn (l := l) hp (c := c) hm)
      have HOK := Lib.hid (fun hn l hp c hm => addS_ok (d := d) hq hn (l := l) hp (c := c) hm)
      rw [Hn.out] at HNM HPA HMA HCL HOK
      rw [← HST.out] at HNM HPA HMA HCL HOK
      clear hq HST
      go_enter Tryz.func40, Tryz.ntmps40
      go_wp2_with fail
      refine HCU.out.mono ?_
      rw [show fv (some j) = (j : Int) from rfl]
      rintro e w2 ⟨rfl, hb2⟩
      go_wp2_with fail
      refine (HTU.out w2).mono ?_
      rintro e w3 ⟨rfl, rfl⟩
      go_wp2_with fail
      refine (HTR.out w2).mono ?_
      rintro e w3 ⟨rfl, rfl⟩
      go_wp2_with fail
      refine (vName_any n w2 (by omega)).mono ?_
      rintro e w4 ⟨rfl, hb4⟩
      have hb := below_two hb2 hb4
      clear hb2 hb4
      have hX4 := hX.below hb
      cases hnm : nameL n with
      | false =>
        have HE := Lib.hid (HNM.out (.inl hnm))
        go_wp2
        go_ret
        exact ⟨KX.below hb hB, LineEnd.err HE.out⟩
      | true =>
        by_cases hot : n = otherL
        · have HE := Lib.hid (HNM.out (.inr hot))
          have heq : ((bytesOf n).toList == [79, 116, 104, 101, 114]) = true := by rw [ByteArray.toList_eq, bytesOf_list, hot]; rfl
          clear hot hnm HNM
          go_wp2
          go_ret
          exact ⟨KX.below hb hB, LineEnd.err HE.out⟩
        · have heq : ((bytesOf n).toList == [79, 116, 104, 101, 114]) = false := by rw [ByteArray.toList_eq, bytesOf_list]; exact beq_eq_false_iff_ne.2 hot
          have HNN : Hid (¬ (nameL n = false ∨ n = otherL)) := Lib.hid (fun h => by rcases h with h | h; rw [hnm] at h; cases h; exact hot h)
          clear hnm hot HNM
          go_wp2_with fail
          refine (HRP.out w4).mono ?_
          rintro e w5 ⟨rfl, hb5⟩
          go_wp2_with fail
          refine (sParse_any (bytesOf (spcL (u.take j))) w5 (by rw [bytesOf_size, spcL_len, List.length_take]; omega)).mono ?_
          rintro e w6 ⟨hb6, hpe⟩
          have hb6' := below_two (below_two hb hb5) hb6
          have hX6 := hX.below hb6'
          have hKX6 := KX.below (x := x) hb6' hB
          have hB6 : base ≤ w6.heap.size := Nat.le_trans hB hb6'.size
          have hx6 : x < w6.heap.size := Nat.lt_of_lt_of_le hx hb6'.size
          clear hX hX4 HTR HRP HCU HTU HX1
          cases hps : parseP (bytesOf (spcL (u.take j))) with
          | error y =>
            rw [hps] at hpe
            have hpe' : e = .returned (.tuple #[.slice none 0 0, .int .i64 y.1, .int .i64 y.2]) := hpe
            subst hpe'
            have hcode := parse_code hps
            have hne : ((y.1 : Int) != 0) = true := by rw [bne_iff_ne]; omega
            have HE := Lib.hid (HPA.out HNN.out y.1 (parseE_err hps))
            clear hps hpe
            go_wp2
            go_ret
            exact ⟨hKX6, LineEnd.err HE.out⟩
          | ok l0 =>
            rw [hps] at hpe
            obtain ⟨A1, n1, c1, rfl, ho1⟩ := hpe
            have HPE := Lib.hid (parseE_ok hps)
            obtain ⟨q, Hq⟩ : ∃ q, Hid (normR l0 = q) := ⟨_, rfl⟩
            have HNFq : Hid (NF q) := Lib.hid (by rw [← Hq.out]; exact normR_NF l0)
            rw [Hq.out] at ho1
            have ho1 := ho1.more (b' := base) (by have := hb5.size; have := hb.size; omega)
            have hn1 := own_nf_len ho1 HNFq.out
            have hnn : nn ≤ 64 := by have := HO.out.few; have := hX6.lenN; omega
            have HNB : Hid (nbrP d n = match d.names.idxOf? n with | some c => .ok c | none => if 64 ≤ d.names.length then .error 6 else .ok d.names.length) := rfl
            clear hps
            go_wp2_with fail
            refine (vClass_any base p x d.names d.sets n w6 ⟨_, _, _, _, _, _, _, hX6⟩ (by have := hX6.lenN; omega)).mono ?_
            rintro e w7 ⟨rfl, rfl⟩
            have hlS := hX6.lenS
            have hlN := hX6.lenN
            have hn0 : 0 < nn := by
              have h1 := HO.out.head
              cases hd : d.names with
              | nil => rw [hd] at h1; cases h1
              | cons a b => rw [hd] at hlN; simp at hlN; omega
            have c0 := hX6.blk.cell 0
            have c1' := hX6.blk.cell 1
            simp only [List.getElem?_toArray, List.getElem?_cons_zero, List.getElem?_cons_succ] at c0 c1'
            obtain ⟨g, HAs, _, _⟩ := hX6.hs.form hn0
            cases hix : d.names.idxOf? n with
            | some c =>
              rw [hix] at HNB
              have HCL' := Lib.hid (fun h => HCL.out HNN.out l0 HPE.out c HNB.out (by rw [Hq.out]; exact h))
              have HOK' := Lib.hid (fun h => HOK.out HNN.out l0 HPE.out c HNB.out (by rw [Hq.out]; exact h))
              rw [Hq.out] at HOK'
              have hclt : c < nn := by have := (List.getElem?_eq_some_iff.1 (idxOf?_some hix)).1; omega
              rw [show ((some c).getD 0 : Nat) = c from rfl, show (some c).isSome = true from rfl]
              clear hix
              go_wp2_with fail
              go_loopw [12] (fun v wr => ∃ (k m : Nat), v = .int .i64 k ∧ k ≤ nn ∧ Hid (ClashAt d c q k) ∧ wr = w6.drewN m) (fun v _ => nn - (intOf v).toNat)
              case atStart => exact ⟨1, 0, rfl, by omega, clash_one HO.out, rfl⟩
              case round =>
                obtain ⟨k, m, rfl, hk, HC, rfl⟩ := hrel
                by_cases hlt : k < nn
                · obtain ⟨s, Hs⟩ : ∃ s, Hid (d.sets[k]? = some s) := ⟨_, Lib.hid (List.getElem?_eq_getElem (show k < d.sets.length by omega))⟩
                  obtain ⟨y, Hy⟩ : ∃ y, Hid (xs[k]? = some y) := ⟨_, Lib.hid (List.getElem?_eq_getElem (show k < xs.length by omega))⟩
                  have hoy := hX6.hx.own k y s Hy.out Hs.out
                  have HNFs : Hid (NF s) := Lib.hid (HO.out.nf s (List.mem_of_getElem? Hs.out))
                  have hny := own_nf_len hoy HNFs.out
                  have hly : s.length = y.2.1 := by simpa using hoy.len
                  have hcell := hX6.hs.cell' HAs (k := k) (y := y) Hy.out
                  subst HAs
                  by_cases hkc : k = c
                  · have hbb : ((k : Int) != (c : Int)) = false := by rw [hkc]; simp
                    have HC' := Lib.hid (clashAt_next HC.out Hs.out (.inl hkc))
                    clear hkc
                    go_wp2
                    go_roundw
                    case rel => exact ⟨k + 1, m, by go_num, by omega, HC', rfl⟩
                    case measure => simp [intOf]; omega
                  · have hbb : ((k : Int) != (c : Int)) = true := by rw [bne_iff_ne]; omega
                    cases hmt : meetB s q with
                    | true =>
                      have HE := Lib.hid (HCL'.out (clash_here Hs.out hkc hmt))
                      clear hkc
                      go_wp2_with (go_at_call 81; refine (vmeet_any y.1 A1 y.2.1 y.2.2 n1 c1 s q (w6.drewN m) ((hoy.rd (by omega)).drewN m) ((ho1.rd (by omega)).drewN m) hly (by simpa using ho1.len) (by omega) (by omega)).mono ?_; rw [hmt]; rintro e w8 ⟨rfl, m2, rfl⟩)
                      go_ret
                      exact ⟨hKX6.trans (KX.below (by first | exact below_refl_drewN _ _ | exact below_drewN (below_refl_drewN _ _) _) hB6), LineEnd.err HE.out⟩
                    | false =>
                      have HC' := Lib.hid (clashAt_next HC.out Hs.out (.inr hmt))
                      clear hkc
                      go_wp2_with (go_at_call 81; refine (vmeet_any y.1 A1 y.2.1 y.2.2 n1 c1 s q (w6.drewN m) ((hoy.rd (by omega)).drewN m) ((ho1.rd (by omega)).drewN m) hly (by simpa using ho1.len) (by omega) (by omega)).mono ?_; rw [hmt]; rintro e w8 ⟨rfl, m2, rfl⟩)
                      go_roundw
                      case rel => exact ⟨k + 1, _, by go_num, by omega, HC', by first | rfl | exact World.drewN_drewN _ _ _⟩
                      case measure => simp [intOf]; omega
                · have HC2 := Lib.hid (HOK'.out (clashAt_end HC.out (show ¬ k < d.sets.length by omega)))
                  have hbm : Below w6.heap.size w6 (w6.drewN m) := below_refl_drewN _ _
                  have hXm := hX6.below hbm
                  have hom := ho1.below hbm
                  have hKt := hKX6.trans (KX.below hbm hB6)
                  have hBt : base ≤ (w6.drewN m).heap.size := hB6
                  generalize w6.drewN m = wm at hXm hom hKt hBt ⊢
                  have hXmN := hXm.lenN
                  have HP' : Hid (putP d n c q = ⟨d.names, d.sets.set c (orR (d.sets.getD c []) q)⟩) := Lib.hid (putP_old (by omega))
                  obtain ⟨l1, Hl1⟩ : ∃ l1, Hid (d.sets[c]? = some l1) := ⟨_, Lib.hid (List.getElem?_eq_getElem (show c < d.sets.length by omega))⟩
                  have HP2 : Hid (stepL d L = .ok ⟨d.names, d.sets.set c (orR l1 q)⟩) := Lib.hid (by rw [HC2.out, HP'.out, List.getD_eq_getElem?_getD, Hl1.out]; rfl)
                  obtain ⟨y, Hxc⟩ : ∃ y, Hid (xs[c]? = some y) := ⟨_, Lib.hid (List.getElem?_eq_getElem (show c < xs.length by omega))⟩
                  have hoy := hXm.hx.own c y l1 Hxc.out Hl1.out
                  have hny := own_nf_len hoy (HO.out.nf l1 (List.mem_of_getElem? Hl1.out))
                  have hrd0 := hoy.rd (by omega)
                  have hrd1 := hom.rd (by omega)
                  have hlen0 : l1.length = y.2.1 := by simpa using hoy.len
                  have hlen1 : q.length = n1 := by simpa using hom.len
                  have k0 := hXm.blk.cell 0
                  simp at k0
                  clear hX6 ho1 HC HCL' HOK' c0 c1' hKX6 hB6 hx6 hbm HAs hXmN hlN
                  go_wp2_with fail
                  obtain ⟨g, HAs, _, _⟩ := hXm.hs.form (show 0 < nn by omega)
                  have hcell := hXm.hs.cell' HAs (k := c) (y := y) Hxc.out
                  subst HAs
                  have k1 := hXm.blk.cell 1
                  simp at k1
                  have hXd := hXm.below (w' := wm.drew) ((Below.refl _ _).drew)
                  have HOR := Lib.hid (sOr_any y.1 A1 y.2.1 y.2.2 n1 c1 l1 q wm.drew hrd0.drew hrd1.drew hlen0 hlen1 (by omega))
                  refine wp_region_noPanic ?_
                  go_region_law (go_simp; go_at_call 82; refine HOR.out.mono ?_; rintro e wz ⟨A', n', c', rfl, ho', hb'⟩; have kz1 := cell_keep (w := wm.drew) k1 hb'; have kzc := cell_keep (w := wm.drew) hcell hb'; have kzf := (hXd.hs.below hb').frozen c)
                  all_goals
                    refine NoPanic.normal ?_
                    have hDz := (hXd.below hb').storeSet (k := c) (y := (A', n', c')) (show c < nn by omega) ho' hBt
                    have hKz := (hKt.trans ((KX.below ((Below.refl _ _).drew) hBt).trans (KX.below hb' hBt))).trans hDz.2
                    go_wp2
                    go_ret
                    exact ⟨hKz, LineEnd.fine HP2.out ⟨_, _, _, _, _, _, _, hDz.1⟩⟩

            | none =>
              rw [hix] at HNB
              rw [show ((none : Option Nat).getD 0 : Nat) = 0 from rfl, show (none : Option Nat).isSome = false from rfl]
              clear hix
              by_cases h64 : 64 ≤ nn
              · have HE := Lib.hid (HMA.out HNN.out l0 HPE.out 6 (by rw [HNB.out]; exact if_pos (by omega)))
                have h64b : (64 : Int) ≤ nn := by omega
                clear hlN
                go_wp2
                go_ret
                exact ⟨hKX6, LineEnd.err HE.out⟩
              · have HNB2 : Hid (nbrP d n = .ok nn) := Lib.hid (by rw [HNB.out, ← hlN]; exact if_neg (by omega))
                obtain ⟨c, Hc⟩ : ∃ c, Hid (c = nn) := ⟨_, rfl⟩
                have HCL' := Lib.hid (fun h => HCL.out HNN.out l0 HPE.out nn HNB2.out (by rw [Hq.out]; exact h))
                have HOK' := Lib.hid (fun h => HOK.out HNN.out l0 HPE.out nn HNB2.out (by rw [Hq.out]; exact h))
                rw [Hq.out] at HOK'
                have h64b : ¬ (64 : Int) ≤ nn := by omega
                go_wp2_with fail
                go_loopw [12] (fun v wr => ∃ (k m : Nat), v = .int .i64 k ∧ k ≤ nn ∧ Hid (ClashAt d nn q k) ∧ wr = w6.drewN m) (fun v _ => nn - (intOf v).toNat)
                case atStart => exact ⟨1, 0, rfl, by omega, clash_one HO.out, rfl⟩
                case round =>
                  obtain ⟨k, m, rfl, hk, HC, rfl⟩ := hrel
                  by_cases hlt : k < nn
                  · obtain ⟨s, Hs⟩ : ∃ s, Hid (d.sets[k]? = some s) := ⟨_, Lib.hid (List.getElem?_eq_getElem (show k < d.sets.length by omega))⟩
                    obtain ⟨y, Hy⟩ : ∃ y, Hid (xs[k]? = some y) := ⟨_, Lib.hid (List.getElem?_eq_getElem (show k < xs.length by omega))⟩
                    have hoy := hX6.hx.own k y s Hy.out Hs.out
                    have HNFs : Hid (NF s) := Lib.hid (HO.out.nf s (List.mem_of_getElem? Hs.out))
                    have hny := own_nf_len hoy HNFs.out
                    have hly : s.length = y.2.1 := by simpa using hoy.len
                    have hcell := hX6.hs.cell' HAs (k := k) (y := y) Hy.out
                    subst HAs
                    by_cases hkc : k = nn
                    · have hbb : ((k : Int) != (nn : Int)) = false := by rw [hkc]; simp
                      have HC' := Lib.hid (clashAt_next HC.out Hs.out (.inl hkc))
                      clear hkc
                      go_wp2
                      go_roundw
                      case rel => exact ⟨k + 1, m, by go_num, by omega, HC', rfl⟩
                      case measure => simp [intOf]; omega
                    · have hbb : ((k : Int) != (nn : Int)) = true := by rw [bne_iff_ne]; omega
                      cases hmt : meetB s q with
                      | true =>
                        have HE := Lib.hid (HCL'.out (clash_here Hs.out hkc hmt))
                        clear hkc
                        go_wp2_with (go_at_call 81; refine (vmeet_any y.1 A1 y.2.1 y.2.2 n1 c1 s q (w6.drewN m) ((hoy.rd (by omega)).drewN m) ((ho1.rd (by omega)).drewN m) hly (by simpa using ho1.len) (by omega) (by omega)).mono ?_; rw [hmt]; rintro e w8 ⟨rfl, m2, rfl⟩)
                        go_ret
                        exact ⟨hKX6.trans (KX.below (by first | exact below_refl_drewN _ _ | exact below_drewN (below_refl_drewN _ _) _) hB6), LineEnd.err HE.out⟩
                      | false =>
                        have HC' := Lib.hid (clashAt_next HC.out Hs.out (.inr hmt))
                        clear hkc
                        go_wp2_with (go_at_call 81; refine (vmeet_any y.1 A1 y.2.1 y.2.2 n1 c1 s q (w6.drewN m) ((hoy.rd (by omega)).drewN m) ((ho1.rd (by omega)).drewN m) hly (by simpa using ho1.len) (by omega) (by omega)).mono ?_; rw [hmt]; rintro e w8 ⟨rfl, m2, rfl⟩)
                        go_roundw
                        case rel => exact ⟨k + 1, _, by go_num, by omega, HC', by first | rfl | exact World.drewN_drewN _ _ _⟩
                        case measure => simp [intOf]; omega
                  · have HC2 := Lib.hid (HOK'.out (clashAt_end HC.out (show ¬ k < d.sets.length by omega)))
                    have hbm : Below w6.heap.size w6 (w6.drewN m) := below_refl_drewN _ _
                    have hXm := hX6.below hbm
                    have hom := ho1.below hbm
                    have hKm := hKX6.trans (KX.below hbm hB6)
                    have hBm : base ≤ (w6.drewN m).heap.size := hB6
                    have hxm : x < (w6.drewN m).heap.size := hx6
                    generalize w6.drewN m = wm at hXm hom hKm hBm hxm ⊢
                    have HP2 : Hid (stepL d L = .ok ⟨d.names ++ [n], (d.sets ++ [[]]).set nn (orR [] q)⟩) := Lib.hid (by
                      have e : (d.sets ++ [[]]).set nn (orR [] q) = d.sets ++ [orR [] q] := by
                        have := set_mid d.sets [] (orR [] q) []
                        rw [show nn = d.sets.length by omega]; exact this
                      rw [HC2.out, e, ← hXm.lenN]; exact congrArg Except.ok putP_new)
                    have Hxc : Hid ((xs ++ [((none : Option Addr), 0, 0)])[nn]? = some (none, 0, 0)) := Lib.hid (by rw [show nn = xs.length by omega]; exact get_mid xs _ [])
                    have hclt : nn < nn + 1 := by omega
                    have k0 := hXm.blk.cell 0
                    simp at k0
                    have on8 := hXm.hn
                    clear hX6 ho1 HC HCL' HOK' c0 c1' hKX6 hB6 hx6 hbm HAs hlN
                    go_wp2_with (first
                      | (at_builtin; refine wpList_app rfl (.tmp 95) (.tmp 97) _ rfl base 9 is1 _ 1 16 Tryz.underlying35 his1 hzs1 hzs2 hzs3 rfl (by omega) An nn cn (d.names.map encNm) rfl (on8.alloc _) _ 1 1 [encNm n] rfl rfl (Rd.newAt (by simp) rfl) (encNm_ok [n]) (by unfold maxLen; omega) (by omega) (by simp; omega) ?_; intro A3 c3 w9 ho9 hg9 hA9; have HN9 := hXm.named (by rw [List.map_append]; exact ho9) hg9 hA9 hxm hBm; have k90 := HN9.1.cell 0; have f90 := HN9.1.frozen 0; have k92 := HN9.2.1.blk.cell 1; simp only [List.getElem?_toArray, List.getElem?_cons_zero, List.getElem?_cons_succ] at k90 k92; have hz9 : wm.heap.size ≤ (w9.setCell ⟨p, 0, none⟩ (.slice A3 (nn + 1) c3)).heap.size := HN9.2.2.1.1.size)
                      | (at_builtin; refine wpList_app rfl (.tmp 105) (.tmp 106) _ rfl base 37 iz1 _ 1 24 Tryz.underlying68 hiz1 hzz1 hzz2 hzz3 rfl (by omega) As nn cs (xs.map encSl) rfl (HN9.2.1.hs.alloc _) _ 1 1 [encSl (none, 0, 0)] rfl rfl (Rd.newAt (by simp [World.setCell]) rfl) (encSl_ok [(none, 0, 0)]) (by unfold maxLen; omega) (by omega) (by simp [World.setCell] at hz9 ⊢; omega) ?_; intro A6 c6 w11 ho11 hg11 hA11; have HM := HN9.2.1.moreSet (by rw [List.map_append]; exact ho11) hg11 hA11 (by omega) (by omega); have k110 := HM.1.cell 1; have f110 := HM.1.frozen 1; have k112 := HM.2.1.blk.cell 1; simp only [List.getElem?_toArray, List.getElem?_cons_zero, List.getElem?_cons_succ] at k110 k112)
                      | fail)
                    have hXt := HM.2.1
                    have hKt := (hKm.trans HN9.2.2.1).trans HM.2.2.1
                    have hot := (hom.keepR HN9.2.2.2 (Nat.le_refl _)).keepR HM.2.2.2 (Nat.le_refl _)
                    have hBt : base ≤ (w11.setCell ⟨p, 1, none⟩ (.slice A6 (nn + 1) c6)).heap.size := Nat.le_trans hBm (Nat.le_trans hz9 HM.2.2.1.1.size)
                    clear HM HN9 hg9 hA9 ho9 k90 f90 k92 hz9 hg11 hA11 ho11 k110 f110 k112 hXm hom hKm hBm hxm k0 on8
                    generalize w11.setCell ⟨p, 1, none⟩ (.slice A6 (nn + 1) c6) = wt at hXt hKt hot hBt ⊢
                    have hrd0 : Rd wt 2 none (([] : List (Int × Int)).map encR) := Rd.nil_ _ _ _
                    have hrd1 := hot.rd (by omega)
                    have hlen0 : ([] : List (Int × Int)).length = 0 := rfl
                    have hlen1 : q.length = n1 := by simpa using hot.len
                    have hcI : (nn : Int) < (nn : Int) + 1 := by omega
                    obtain ⟨g, HAs, _, _⟩ := hXt.hs.form (show 0 < nn + 1 by omega)
                    have hcell := hXt.hs.cell' HAs (k := nn) (y := ((none : Option Addr), 0, 0)) Hxc.out
                    subst HAs
                    have k1 := hXt.blk.cell 1
                    simp at k1
                    have hXd := hXt.below (w' := wt.drew) ((Below.refl _ _).drew)
                    have HOR := Lib.hid (sOr_any none A1 0 0 n1 c1 [] q wt.drew hrd0.drew hrd1.drew hlen0 hlen1 (by omega))
                    refine wp_region_noPanic ?_
                    go_region_law (go_simp; go_at_call 82; refine HOR.out.mono ?_; rintro e wz ⟨A', n', c', rfl, ho', hb'⟩; have kz1 := cell_keep (w := wt.drew) k1 hb'; have kzc := cell_keep (w := wt.drew) hcell hb'; have kzf := (hXd.hs.below hb').frozen nn)
                    all_goals
                      refine NoPanic.normal ?_
                      have hDz := (hXd.below hb').storeSet (k := nn) (y := (A', n', c')) (show nn < nn + 1 by omega) ho' hBt
                      have hKz := (hKt.trans ((KX.below ((Below.refl _ _).drew) hBt).trans (KX.below hb' hBt))).trans hDz.2
                      go_wp2
                      go_ret
                      exact ⟨hKz, LineEnd.fine HP2.out ⟨_, _, _, _, _, _, _, hDz.1⟩⟩
end Go.Proofs.YtejccafolfeabaaGreatDoor

/-
  kerfref04: rest, New, walked.
-/
namespace Go.Proofs.YtejccafolfeabaaGreatDoor
open Go.RowKit Go.Maps

set_option maxRecDepth 100000 in
set_option maxHeartbeats 8000000 in
theorem vrest_any (p base x : Nat) (d : DbP) (w : World) (hd : RfB w base p x d.names d.sets) (ho : d.Ok) (ha : Apart d.sets) (hB : base ≤ w.heap.size) :
    Calls Tryz.prog 41 #[.pointer (some ⟨p, 0, none⟩)] w fun e w' => e = .returned (.tuple #[]) ∧ RfB w' base p x d.names d.full ∧ Below base w w' := by
  obtain ⟨An, nn, cn, As, ns, cs, xs, hX⟩ := hd.ex
  obtain ⟨j0, hj0, hy0, hy1, hy2⟩ := info_parts infoR
  have hns1 : 0 < ns := by
    have h1 := hX.lenS.2; have h2 := ho.len; have h3 := ho.head
    cases hd : d.names with
    | nil => rw [hd] at h3; cases h3
    | cons a b => rw [hd] at h2; simp at h2; omega
  obtain ⟨g, HAs, hgB, hgw⟩ := hX.hs.form hns1
  subst HAs
  have hns64 : ns ≤ 64 := by have h1 := hX.lenS.2; have h2 := ho.len; have h3 := ho.few; omega
  obtain ⟨T, HT⟩ : ∃ T, Hid (d.sets.tail = T) := ⟨_, rfl⟩
  have hTl : T.length + 1 = ns := by have h1 := hX.lenS.2; have := HT.out; rw [← this, List.length_tail]; omega
  have HTl := Lib.hid hTl
  have HTS : Hid (lenS T ≤ 1114112) := Lib.hid (by have := rng_len ho ha; rw [← HT.out]; omega)
  have HTN : Hid (∀ (k : Nat) (s : List (Int × Int)), T[k]? = some s → NF s ∧ d.sets[k + 1]? = some s) := Lib.hid (fun k s hk => by
    have : d.sets[k + 1]? = some s := by rw [← HT.out] at hk; rw [List.getElem?_tail] at hk; exact hk
    exact ⟨ho.nf s (List.mem_of_getElem? this), this⟩)
  have HFS := Lib.hid (full_set ho)
  have HRest : Hid (d.rest = notR (T.flatten)) := Lib.hid (by unfold DbP.rest; rw [HT.out])
  have c1 := hX.blk.cell 1
  simp at c1
  clear ho ha hTl hd
  go_enter Tryz.func41, Tryz.ntmps41
  go_wp2_with fail
  go_loopw [2, 3] (fun a v wr => ∃ (c : Nat) (Aa : Option Addr) (na ca : Nat), a = .slice Aa na ca ∧ v = .int .i64 (c + 1 : Nat) ∧ c + 1 ≤ ns ∧ Own wr w.heap.size 80 2 Aa na ca (((T.take c).flatten).map encR) ∧ Below w.heap.size w wr) (fun _ v _ => ns - (intOf v).toNat)
  case atStart => exact ⟨0, none, 0, 0, rfl, rfl, by omega, by simp; exact Own.nil_ _ _ _ _, Below.refl _ _⟩
  case round =>
    obtain ⟨c, Aa, na, ca, rfl, rfl, hc, hal, hb⟩ := hrel
    have hszr := hb.size
    have e1 := cell_keep c1 hb
    have hfl := Lib.hid (flat_le T c)
    have hnal : na ≤ 1114112 := by have h1 := hal.len; rw [List.length_map] at h1; have := hfl.out; have := HTS.out; omega
    by_cases hlt : c + 1 < ns
    · obtain ⟨s, Hs⟩ : ∃ s, Hid (T[c]? = some s) := ⟨_, Lib.hid (List.getElem?_eq_getElem (show c < T.length by have := HTl.out; omega))⟩
      obtain ⟨HNF, Hd⟩ := HTN.out c s Hs.out
      obtain ⟨⟨yA, yn, yc⟩, Hy⟩ : ∃ y, Hid (xs[c + 1]? = some y) := ⟨_, Lib.hid (List.getElem?_eq_getElem (show c + 1 < xs.length by have := hX.lenS.1; omega))⟩
      have hoy : Own w base 80 2 yA yn yc (s.map encR) := hX.hx.own (c + 1) (yA, yn, yc) s Hy.out Hd
      have hly : s.length = yn := by simpa using hoy.len
      have Hly := Lib.hid hly
      have hny := own_nf_len hoy HNF
      have hcell := cell_keep (hX.hs.cell' rfl Hy.out) hb
      have hoq := hoy.below hb
      have HFN := Lib.hid (flat_next Hs.out)
      have hfl2 := Lib.hid (flat_le T (c + 1))
      have hbound : na + yn ≤ 1114112 := by
        have h1 := hal.len; rw [List.length_map] at h1
        have h2 := hfl2.out; rw [HFN.out, List.length_append] at h2; have := HTS.out; omega
      have hI : (c : Int) + 1 < ns := by omega
      clear HNF Hd hly
      go_wp2_with (at_builtin; go_must (refine wpList_app rfl (.tmp 13) (.tmp 20) _ rfl w.heap.size 80 j0 _ 2 8 Tryz.underlying37 hj0 hy0 hy1 hy2 rfl (by omega) Aa na ca (((T.take c).flatten).map encR) rfl hal yA yn yc (s.map encR) rfl (by rw [List.length_map]; exact Hly.out) (hoq.rd (by omega)) (encR_ok s) (by unfold maxLen; omega) (by omega) (by omega) ?_); intro A3 c3 w3 ho3 hg3 hA3)
      have Ho3 : Own w3 w.heap.size 80 2 A3 (na + yn) c3 (((T.take (c + 1)).flatten).map encR) := by rw [HFN.out, List.map_append]; exact ho3
      have hb3 := below_app hb hg3 hszr (fun a ha => (hal.lt a ha).1)
      clear ho3 hg3
      go_roundw
      case rel => exact ⟨c + 1, A3, na + yn, c3, rfl, by go_num, by omega, Ho3, hb3⟩
      case measure => simp [intOf]; omega
    · obtain rfl : c + 1 = ns := by omega
      have HFe : Hid ((T.take c).flatten = T.flatten) := Lib.hid (by rw [List.take_of_length_le (by have := HTl.out; omega)])
      rw [HFe.out] at hal
      have hXr := hX.below hb
      have HNot := Lib.hid (sNot_any Aa na ca T.flatten wr.drew ((hal.rd (by omega)).drew) (by have h1 := hal.len; rw [List.length_map] at h1; exact h1) (by omega))
      obtain ⟨y0, hy0'⟩ : ∃ y, xs[0]? = some y := ⟨_, List.getElem?_eq_getElem (show 0 < xs.length by have := hX.lenS.1; omega)⟩
      have k0 := hXr.hs.cell' rfl hy0'
      have hXd := hXr.below (w' := wr.drew) ((Below.refl _ _).drew)
      have hBr : base ≤ wr.heap.size := by omega
      go_wp2_with fail
      refine wp_region_noPanic ?_
      go_region_law (go_simp; go_at_call 83; refine HNot.out.mono ?_; rintro e wz ⟨A', n', c', rfl, ho', hb'⟩; have kz0 := cell_keep (w := wr.drew) k0 hb'; have kz1 := cell_keep (w := wr.drew) e1 hb'; have kzf := (hXd.hs.below hb').frozen 0)
      all_goals
        refine NoPanic.normal ?_
        have hDz := (hXd.below hb').storeSet (k := 0) (y := (A', n', c')) (l := d.rest) (by omega) (by rw [HRest.out]; exact ho') hBr
        have hbz := (((hb.mono hB).trans ((Below.refl wr.heap.size wr).drew.mono hBr)).trans (hb'.mono hBr)).trans hDz.2.1
        rw [HFS.out] at hDz
        go_wp2
        first | exact ⟨_, results_none rfl _ _ _, rfl, ⟨_, _, _, _, _, _, _, hDz.1⟩, hbz⟩ | exact ⟨_, rfl, results_none rfl _ _ _, rfl, ⟨_, _, _, _, _, _, _, hDz.1⟩, hbz⟩ | exact ⟨rfl, _, results_none rfl _ _ _, rfl, ⟨_, _, _, _, _, _, _, hDz.1⟩, hbz⟩

/-- What the document's New leaves. -/
def RNewEnd (r : Except (Int × Nat) DbP) (e : Ending) (w' : World) (base : Nat) : Prop :=
  match r with
  | .error x => e = .returned (.tuple #[.pointer none, .int .i64 x.1, .int .i64 (x.2 : Int)])
  | .ok d => ∃ p x, e = .returned (.tuple #[.pointer (some ⟨p, 0, none⟩), .int .i64 0, .int .i64 0]) ∧ RfB w' base p x d.names d.full
theorem RNewEnd.err {r : Except (Int × Nat) DbP} {k : Int} {i : Nat} {w' : World} {base : Nat} (h : r = .error (k, i)) : RNewEnd r (.returned (.tuple #[.pointer none, .int .i64 k, .int .i64 (i : Int)])) w' base := by rw [h]; exact rfl
theorem RNewEnd.fine {r : Except (Int × Nat) DbP} {d : DbP} {p x : Nat} {w' : World} {base : Nat} (h : r = .ok d) (hd : RfB w' base p x d.names d.full) : RNewEnd r (.returned (.tuple #[.pointer (some ⟨p, 0, none⟩), .int .i64 0, .int .i64 0])) w' base := by rw [h]; exact ⟨p, x, rfl, hd⟩

theorem step_err {d : DbP} {L : List UInt8} {k : Int} (h : stepL d L = .error k) : 6 ≤ k := by
  unfold stepL at h
  split at h
  · cases h
  · injection h with h; omega
  · exact addL_err h
/-- The document's database at first. -/
theorem rfX_first (w : World) :
    RfX (((w.alloc (.cells #[.string (bytesOf otherL)] 9)).alloc (.cells #[.slice none 0 0] 37)).alloc (.cells #[.slice (some ⟨w.heap.size, 0, none⟩) 1 1, .slice (some ⟨w.heap.size + 1, 0, none⟩) 1 1] 75)) w.heap.size (w.heap.size + 2) (w.heap.size + 3)
      (some ⟨w.heap.size, 0, none⟩) 1 1 (some ⟨w.heap.size + 1, 0, none⟩) 1 1 [(none, 0, 0)] [otherL] [[]] ∧
    Below w.heap.size w (((w.alloc (.cells #[.string (bytesOf otherL)] 9)).alloc (.cells #[.slice none 0 0] 37)).alloc (.cells #[.slice (some ⟨w.heap.size, 0, none⟩) 1 1, .slice (some ⟨w.heap.size + 1, 0, none⟩) 1 1] 75)) := by
  have n1 : Own (w.alloc (.cells #[.string (bytesOf otherL)] 9)) w.heap.size 9 1 (some ⟨w.heap.size, 0, none⟩) 1 1 ([otherL].map encNm) := own_one (Nat.le_refl _)
  have s2 : Own ((w.alloc (.cells #[.string (bytesOf otherL)] 9)).alloc (.cells #[.slice none 0 0] 37)) w.heap.size 37 1 (some ⟨w.heap.size + 1, 0, none⟩) 1 1 ([((none : Option Addr), 0, 0)].map encSl) := by
    have := own_one (w := w.alloc (.cells #[.string (bytesOf otherL)] 9)) (t := 37) (u := .slice none 0 0) (base := w.heap.size) (by simp)
    rw [show (w.alloc (.cells #[.string (bytesOf otherL)] 9)).heap.size = w.heap.size + 1 by simp] at this
    exact this
  refine ⟨⟨?_, by omega, (n1.alloc _).alloc _, s2.alloc _, ⟨rfl, ?_⟩, by omega, fun a ha => by injection ha with ha; subst ha; show w.heap.size ≠ w.heap.size + 3; omega, fun a ha => by injection ha with ha; subst ha; show w.heap.size + 1 ≠ w.heap.size + 3; omega⟩, ?_⟩
  · have := Blk.new ((w.alloc (.cells #[.string (bytesOf otherL)] 9)).alloc (.cells #[.slice none 0 0] 37)) 75 #[.slice (some ⟨w.heap.size, 0, none⟩) 1 1, .slice (some ⟨w.heap.size + 1, 0, none⟩) 1 1]
    simpa using this
  · intro k x l hx hl
    match k, hx, hl with
    | 0, hx, hl => simp at hx hl; subst hx; subst hl; exact Own.nil_ _ _ _ _
    | k + 1, hx, hl => simp at hx
  · exact (((Below.refl _ _).alloc (Nat.le_refl _) _).alloc (by simp) _).alloc (by simp; omega) _

set_option maxRecDepth 100000 in
set_option maxHeartbeats 8000000 in
theorem vNew_any (t : List UInt8) (w : World) (ht : t.length ≤ maxLen) :
    Calls Tryz.prog 14 #[.string (bytesOf t)] w fun e w' => RNewEnd (newP t) e w' w.heap.size ∧ Below w.heap.size w w' := by
  have hsz : (bytesOf t).size = t.length := bytesOf_size t
  unfold maxLen at ht
  by_cases hl : 65536 < t.length
  · have HE := Lib.hid (newP_long hl)
    go_enter Tryz.func14, Tryz.ntmps14
    go_wp2
    go_ret3
    exact ⟨RNewEnd.err HE.out, Below.refl _ _⟩
  · have HG := Lib.hid (newP_go hl)
    obtain ⟨hX, hB0⟩ := rfX_first w
    have hw3 : w.heap.size + 3 = (((w.alloc (.cells #[.string (bytesOf otherL)] 9)).alloc (.cells #[.slice none 0 0] 37)).alloc (.cells #[.slice (some ⟨w.heap.size, 0, none⟩) 1 1, .slice (some ⟨w.heap.size + 1, 0, none⟩) 1 1] 75)).heap.size := by simp
    obtain ⟨L, HL⟩ : ∃ L, Hid (splitL t = L) := ⟨_, rfl⟩
    have HLl := Lib.hid (fun i l (h : L[i]? = some l) => line_len (t := t) (i := i) (l := l) (by rw [HL.out]; exact h))
    have HLn : Hid (L.length ≤ 65537) := Lib.hid (by rw [← HL.out, splitL_count]; have := List.count_le_length (a := (10 : UInt8)) (l := t); omega)
    have HNP : Hid (newP t = linesGo DbP.first L 0) := Lib.hid (by rw [HG.out, HL.out])
    have HV := Lib.hid (fun W => vLines_any t W (by omega))
    rw [HL.out] at HV
    go_enter Tryz.func14, Tryz.ntmps14
    go_wp2_with fail
    rw [show (⟨#[79, 116, 104, 101, 114]⟩ : ByteArray) = bytesOf otherL from rfl]
    generalize ((w.alloc (.cells #[.string (bytesOf otherL)] 9)).alloc (.cells #[.slice none 0 0] 37)).alloc (.cells #[.slice (some ⟨w.heap.size, 0, none⟩) 1 1, .slice (some ⟨w.heap.size + 1, 0, none⟩) 1 1] 75) = w3 at hX hB0 hw3 ⊢
    refine (HV.out w3).mono ?_
    rintro e w4 ⟨AL, nL, cL, rfl, hoL, hb4⟩
    have hnL : L.length = nL := by simpa using hoL.len
    have hX4 := hX.below hb4
    have hB4 := below_step hB0 hb4 (by have := hB0.size; omega)
    have HnL := Lib.hid hnL
    have HLne : Hid (L ≠ []) := Lib.hid (by rw [← HL.out]; exact splitL_ne t)
    clear hnL HG HL
    -- the block of the lines, or none
    obtain ⟨x, hxw, hXx, hcells⟩ : ∃ x, x < w4.heap.size ∧ RfX w4 w.heap.size (w.heap.size + 2) x (some ⟨w.heap.size, 0, none⟩) 1 1 (some ⟨w.heap.size + 1, 0, none⟩) 1 1 [(none, 0, 0)] [otherL] [[]] ∧
        (∀ W : World, W.heap[x]? = w4.heap[x]? → ∀ i l, L[i]? = some l → ∃ off, AL = some ⟨x, off, none⟩ ∧ W.cell? ⟨x, off + i, none⟩ = some (.string (bytesOf l))) := by
      have h0 : 0 < nL := by
        cases hq : L with
        | nil => exact absurd hq HLne.out
        | cons a b => rw [← HnL.out, hq]; simp
      obtain ⟨gx, hgx, hg1, hg2⟩ := hoL.form h0
      subst hgx
      refine ⟨gx, hg2, { hX4 with xp := by omega, xn := fun a ha => by injection ha with ha; subst ha; show w.heap.size ≠ gx; omega, xs_ := fun a ha => by injection ha with ha; subst ha; show w.heap.size + 1 ≠ gx; omega }, fun W hW i l hl => ?_⟩
      have h1 := hoL.cell (k := i) (j := 0) (x := encNm l) (u := .string (bytesOf l)) (by rw [List.getElem?_map, hl]; rfl) rfl
      simp only [Nat.mul_one, Nat.add_zero] at h1
      exact ⟨0, rfl, by rw [Nat.zero_add]; exact (World.cell?_of_block hW).trans h1⟩
    have HCells := Lib.hid hcells
    have hsw := hB4.size
    clear hcells hX hX4 hB0 hw3 hb4 hoL
    generalize w.heap.size + 2 = p at hXx ⊢
    go_wp2_with fail
    go_loopw [7] (fun v wr => ∃ (i : Nat) (d : DbP), v = .int .i64 i ∧ i ≤ L.length ∧ RfB wr w.heap.size p x d.names d.sets ∧ wr.heap[x]? = w4.heap[x]? ∧ Hid (NewAt L i d) ∧ Below w.heap.size w wr ∧ x < wr.heap.size) (fun v _ => L.length - (intOf v).toNat)
    case atStart => exact ⟨0, DbP.first, rfl, by omega, ⟨_, _, _, _, _, _, _, hXx⟩, rfl, newAt_first L, hB4, hxw⟩
    case round =>
      clear hXx
      obtain ⟨i, d, rfl, hi, hd, hxr, HN, hb, hxl⟩ := hrel
      have hszr := hb.size
      have hnl := HnL.out
      by_cases hlt : i < L.length
      · obtain ⟨l, Hl⟩ : ∃ l, Hid (L[i]? = some l) := ⟨_, Lib.hid (List.getElem?_eq_getElem hlt)⟩
        obtain ⟨off, rfl, hcell⟩ := HCells.out wr hxr i l Hl.out
        have hll := HLl.out i l Hl.out
        have HN2 := HLn.out
        have HA := Lib.hid (vline_any p w.heap.size x d l wr hd HN.out.2.2.1 hxl hszr (by omega))
        have hltn : i < nL := by omega
        clear hnl
        cases hs : stepL d l with
        | error k =>
          rw [hs] at HA
          have hk0 : ((k : Int) != 0) = true := by rw [bne_iff_ne]; have := step_err hs; omega
          have HE := Lib.hid (HNP.out.trans (newAt_err HN.out Hl.out hs))
          clear hs
          go_wp2_with fail
          refine HA.out.mono ?_
          rintro e w6 ⟨hk, hae⟩
          have he : e = .returned (.int .i64 k) := hae
          subst he
          go_wp2
          go_ret3
          exact ⟨RNewEnd.err HE.out, hb.trans hk.1⟩
        | ok d' =>
          rw [hs] at HA
          have HN' := Lib.hid (newAt_next HN.out Hl.out hs)
          clear hs
          go_wp2_with fail
          refine HA.out.mono ?_
          rintro e w6 ⟨hk, rfl, hd'⟩
          go_wp2
          go_roundw
          case rel => exact ⟨i + 1, d', by go_num, by omega, hd', (hk.2 hxl).trans hxr, HN', hb.trans hk.1, Nat.lt_of_lt_of_le hxl hk.1.size⟩
          case measure => simp [intOf]; omega
      · have HE := Lib.hid (HNP.out.trans (newAt_end HN.out hlt))
        have HC := Lib.hid (vrest_any p w.heap.size x d wr hd HN.out.2.2.1 HN.out.2.2.2 hszr)
        go_wp2_with (go_at_call 41; refine HC.out.mono ?_; rintro e w5 ⟨rfl, hda, hb5⟩)
        go_ret3
        exact ⟨RNewEnd.fine HE.out hda, hb.trans hb5⟩
end Go.Proofs.YtejccafolfeabaaGreatDoor

/-
  REGIONS: a region that draws its order, and whose last operation waits for all the others: the head may be walked as a region of its own. No program's walk.
-/
namespace Go.Proofs.YtejccafolfeabaaGreatDoor
open Go Go.RowKit

section
variable {P : Program} {Q : Exit → Act → World → Prop} {md : Region.Mode}
/-- The head's post: N at its end, else as it was. -/
def tailQ (N : Act → World → Prop) (Q : Exit → Act → World → Prop) : Exit → Act → World → Prop
  | .normal, a, w => N a w
  | e, a, w => Q e a w
theorem wp_tailQ {N : Act → World → Prop} {o : Oper} {a : Act} {w : World} {K : Act → World → Prop} : Oper.wp P o a w K (tailQ N Q) = Oper.wp P o a w K Q := by
  unfold Oper.wp
  generalize (execOp a.eval o).run P w = r
  cases r with
  | ok n w' => cases n <;> simp only [Oper.upon] <;> rfl
  | halt x w' => cases x <;> rfl
theorem lets_tailQ {N : Act → World → Prop} : LetsOut (tailQ N Q) = LetsOut Q := rfl
/-- Each operation but the last is waited for by a later one. -/
def lastSink (md : Region.Mode) (l : List Oper) : Bool :=
  (List.range (l.length - 1)).all fun i => (List.range l.length).any fun j => decide (i < j) && ((l[j]?).map fun o => o.after.any fun e => Region.binds md e && e.on == i).getD false
/-- Each operation waits for earlier ones alone; none is guarded. -/
def lastDown (md : Region.Mode) (l : List Oper) : Bool :=
  (List.range l.length).all fun j => ((l[j]?).map fun o => o.guard.isNone && o.after.all fun e => !Region.binds md e || decide (e.on < j)).getD true
theorem lastSink_spec {l : List Oper} (h : lastSink md l = true) {i : Nat} (hi : i < l.length - 1) : ∃ j o, i < j ∧ l[j]? = some o ∧ ∃ e ∈ o.after, Region.binds md e = true ∧ e.on = i := by
  unfold lastSink at h
  rw [List.all_eq_true] at h
  have h1 := h i (List.mem_range.2 hi)
  rw [List.any_eq_true] at h1
  obtain ⟨j, _, h2⟩ := h1
  rw [Bool.and_eq_true, decide_eq_true_eq] at h2
  obtain ⟨h3, h4⟩ := h2
  cases ho : l[j]? with
  | none => rw [ho] at h4; cases h4
  | some o =>
    rw [ho] at h4
    simp only [Option.map_some, Option.getD_some, Array.any_eq_true] at h4
    obtain ⟨k, hk, h5⟩ := h4
    simp only [Bool.and_eq_true, beq_iff_eq] at h5
    exact ⟨j, o, h3, ho, _, Array.getElem_mem hk, h5.1, h5.2⟩
theorem lastDown_spec {l : List Oper} (h : lastDown md l = true) {j : Nat} {o : Oper} (hj : l[j]? = some o) : o.guard = none ∧ ∀ e ∈ o.after, Region.binds md e = true → e.on < j := by
  unfold lastDown at h
  rw [List.all_eq_true] at h
  have h1 := h j (List.mem_range.2 (List.getElem?_eq_some_iff.1 hj).1)
  rw [hj] at h1
  simp only [Option.map_some, Option.getD_some, Bool.and_eq_true, Option.isNone_iff_eq_none] at h1
  refine ⟨h1.1, fun e he hb => ?_⟩
  have h2 := Array.all_eq_true_iff_forall_mem.1 h1.2 e he
  rw [hb] at h2
  simpa using h2
/-- The head's list and the whole one tell the same of the head. -/
structure SameHead (md : Region.Mode) (l : List Oper) (L L' : Array Bool) : Prop where
  size : L.size = l.length
  size' : L'.size = l.length - 1
  same : ∀ i, i < l.length - 1 → ∀ d, L.getD i d = L'.getD i d
  inv : ∀ (j : Nat) (o : Oper), l[j]? = some o → L.getD j false = true → ∀ e ∈ o.after, Region.binds md e = true → L.getD e.on false = true
  last : L.getD (l.length - 1) false = false
theorem getD_any {L : Array Bool} {i : Nat} (h : i < L.size) (d d' : Bool) : L.getD i d = L.getD i d' := by simp [h]
theorem head_get {l : List Oper} {i : Nat} (h : i < l.length - 1) : (l.dropLast.toArray)[i]? = l[i]? := by
  rw [List.getElem?_toArray, List.getElem?_dropLast, if_pos h]
theorem SameHead.ready {l : List Oper} {L L' : Array Bool} (h : SameHead md l L L') (hd : lastDown md l = true) {i : Nat} (hi : i < l.length - 1) : i ∈ Region.ready md l.toArray L ↔ i ∈ Region.ready md l.dropLast.toArray L' := by
  rw [mem_ready, mem_ready, head_get hi, List.getElem?_toArray, h.same i hi]
  constructor
  · rintro ⟨h0, o, ho, h1⟩
    exact ⟨h0, o, ho, fun e he hb => by rw [← h.same e.on (by have := (lastDown_spec hd ho).2 e he hb; omega)]; exact h1 e he hb⟩
  · rintro ⟨h0, o, ho, h1⟩
    exact ⟨h0, o, ho, fun e he hb => by rw [h.same e.on (by have := (lastDown_spec hd ho).2 e he hb; omega)]; exact h1 e he hb⟩
theorem SameHead.all {l : List Oper} {L L' : Array Bool} (h : SameHead md l L L') (hs : lastSink md l = true) (hr : l.length - 1 ∈ Region.ready md l.toArray L) : ∀ (k i : Nat), i < l.length - 1 → l.length - 1 ≤ i + k → L.getD i false = true
  | 0, i, hi, hk => by omega
  | k + 1, i, hi, hk => by
    obtain ⟨j, o, hij, ho, e, he, hb, rfl⟩ := lastSink_spec hs hi
    have hjl := (List.getElem?_eq_some_iff.1 ho).1
    by_cases hj : j = l.length - 1
    · obtain ⟨_, o', ho', hall⟩ := mem_ready.1 hr
      rw [List.getElem?_toArray, ← hj, ho] at ho'
      injection ho' with ho'; subst ho'
      exact hall e he hb
    · exact h.inv j o ho (h.all hs hr k j (by omega) (by omega)) e he hb
theorem SameHead.some_ready {l : List Oper} {L L' : Array Bool} (h : SameHead md l L L') (hd : lastDown md l = true) (hn : 0 < l.length) : Region.ready md l.toArray L ≠ [] := fun h0 => by
  have key : ∀ k, k < l.length → L.getD k false = true := by
    intro k
    induction k using Nat.strongRecOn with
    | ind k ih =>
      intro hk
      cases hq : L.getD k false with
      | true => rfl
      | false =>
        obtain ⟨o, ho⟩ : ∃ o, l[k]? = some o := ⟨_, List.getElem?_eq_getElem hk⟩
        have : k ∈ Region.ready md l.toArray L := mem_ready.2 ⟨by rw [getD_any (by rw [h.size]; exact hk) true false]; exact hq, o, by rw [List.getElem?_toArray]; exact ho, fun e he hb => by
          have := (lastDown_spec hd ho).2 e he hb
          exact ih e.on this (by omega)⟩
        rw [h0] at this; cases this
  have := key (l.length - 1) (by omega)
  rw [h.last] at this; cases this
theorem SameHead.step {l : List Oper} {L L' : Array Bool} (h : SameHead md l L L') {i : Nat} (hi : i < l.length - 1) (hr : i ∈ Region.ready md l.toArray L) : SameHead md l (L.setIfInBounds i true) (L'.setIfInBounds i true) := by
  refine ⟨by simpa using h.size, by simpa using h.size', fun k hk d => ?_, fun j o ho hj e he hb => ?_, by rw [getD_set_ne false (by omega)]; exact h.last⟩
  · by_cases e : i = k
    · subst e; simp [h.size, h.size', hk, show i < l.length by omega]
    · rw [getD_set_ne d e, getD_set_ne d e]; exact h.same k hk d
  · by_cases e1 : i = j
    · subst e1
      obtain ⟨_, o', ho', hall⟩ := mem_ready.1 hr
      rw [List.getElem?_toArray, ho] at ho'
      injection ho' with ho'; subst ho'
      exact getD_set_true (hall e he hb)
    · rw [getD_set_ne false e1] at hj
      exact getD_set_true (h.inv j o ho hj e he hb)
theorem wpOp_head {l : List Oper} (hd : lastDown md l = true) {N : Act → World → Prop} {i : Nat} (hi : i < l.length - 1) {K K' : Act → World → Prop} {a : Act} {w : World} (hK : ∀ a w, K a w → K' a w)
    (h : wpOp P l.dropLast.toArray (tailQ N Q) i K a w) : wpOp P l.toArray Q i K' a w := by
  refine wpOp_mono hK ?_
  obtain ⟨o, ho⟩ : ∃ o, l[i]? = some o := ⟨_, List.getElem?_eq_getElem (by omega)⟩
  have hg := (lastDown_spec hd ho).1
  unfold wpOp at h ⊢
  simp only [head_get hi, List.getElem?_toArray, ho, Region.wanted, hg, if_true, wp_tailQ, lets_tailQ] at h ⊢
  exact h
theorem last_step {l : List Oper} {L L' : Array Bool} (h : SameHead md l L L') (hs : lastSink md l = true) (hr : l.length - 1 ∈ Region.ready md l.toArray L) (hn : 0 < l.length) {fuel : Nat} {a : Act} {w : World}
    (H : wpOp P l.toArray Q (l.length - 1) (Q .normal) a w) : wpOp P l.toArray Q (l.length - 1) (wpAny P md l.toArray Q fuel (L.setIfInBounds (l.length - 1) true)) a w := by
  have h0 : Region.ready md l.toArray (L.setIfInBounds (l.length - 1) true) = [] := by
    refine List.eq_nil_iff_forall_not_mem.2 fun j hj => ?_
    obtain ⟨h1, o, ho, _⟩ := mem_ready.1 hj
    have hjl : j < l.length := by rw [List.getElem?_toArray] at ho; exact (List.getElem?_eq_some_iff.1 ho).1
    by_cases e : l.length - 1 = j
    · subst e; simp [h.size, hjl] at h1
    · rw [getD_set_ne true e, getD_any (by rw [h.size]; exact hjl) true false, h.all hs hr (l.length - 1) j (by omega) (by omega)] at h1
      cases h1
  refine wpOp_mono (fun a w hq => ?_) H
  cases fuel with
  | zero => exact ⟨h0, hq⟩
  | succ k => exact ⟨fun _ => hq, by rw [h0]; simp⟩
theorem wpAny_last {l : List Oper} (hs : lastSink md l = true) (hd : lastDown md l = true) (hn : 0 < l.length) :
    ∀ (fuel : Nat) (L L' : Array Bool) (a : Act) (w : World), SameHead md l L L' →
      wpAny P md l.dropLast.toArray (tailQ (wpOp P l.toArray Q (l.length - 1) (Q .normal)) Q) fuel L' a w → wpAny P md l.toArray Q (fuel + 1) L a w := by
  intro fuel
  induction fuel with
  | zero =>
    intro L L' a w hS H
    refine ⟨fun h0 => absurd h0 (hS.some_ready hd hn), fun i hi => ?_⟩
    obtain ⟨_, o, ho, _⟩ := mem_ready.1 hi
    have hil : i < l.length := by rw [List.getElem?_toArray] at ho; exact (List.getElem?_eq_some_iff.1 ho).1
    by_cases e : i < l.length - 1
    · have := (hS.ready hd e).1 hi
      rw [H.1] at this; cases this
    · obtain rfl : i = l.length - 1 := by omega
      exact last_step hS hs hi hn H.2
  | succ fuel ih =>
    intro L L' a w hS H
    refine ⟨fun h0 => absurd h0 (hS.some_ready hd hn), fun i hi => ?_⟩
    obtain ⟨_, o, ho, _⟩ := mem_ready.1 hi
    have hil : i < l.length := by rw [List.getElem?_toArray] at ho; exact (List.getElem?_eq_some_iff.1 ho).1
    by_cases e : i < l.length - 1
    · exact wpOp_head hd e (fun a w h => ih _ _ a w (hS.step e hi) h) (H.2 i ((hS.ready hd e).1 hi))
    · obtain rfl : i = l.length - 1 := by omega
      refine last_step hS hs hi hn (H.1 (List.eq_nil_iff_forall_not_mem.2 fun j hj => ?_))
      obtain ⟨h1, o, ho, _⟩ := mem_ready.1 hj
      have hjl : j < l.length - 1 := by rw [List.getElem?_toArray] at ho; have := (List.getElem?_eq_some_iff.1 ho).1; rwa [List.length_dropLast] at this
      rw [← hS.same j hjl true, getD_any (by rw [hS.size]; omega) true false, hS.all hs hi (l.length - 1) j hjl (by omega)] at h1
      cases h1
theorem tailQ_end {N : Act → World → Prop} {a : Act} {w : World} (h : N a w) : tailQ N Q .normal a w := h
/-- THE HEAD OF A REGION goes as a region that is held (S); then its last operation. -/
theorem wp_region_last {id : Nat} {l : List Oper} {a : Act} {w : World} {S : World → Prop} (n : Nat) (hn : l.length = n + 1) (hm : P.follows .mixedOrders = true) (hs : lastSink .any l = true) (hd : lastDown .any l = true) (hS : S w.drew)
    (h : S w.drew → wpAnyH P .any l.dropLast.toArray (tailQ (wpOp P l.toArray Q n (Q .normal)) Q) S n (Array.replicate n false) a w.drew) : (Code.region id l.toArray true).wp P Q a w := by
  obtain rfl : n = l.length - 1 := by omega
  have hH : SameHead .any l (Array.replicate l.length false) (Array.replicate (l.length - 1) false) := by
    refine ⟨by simp, by simp, fun i hi d => ?_, fun j o ho hj => ?_, ?_⟩
    · simp [hi, show i < l.length by omega]
    · have hl := (List.getElem?_eq_some_iff.1 ho).1
      simp [hl] at hj
    · simp [show l.length - 1 < l.length by omega]
  have := wpAny_last (Q := Q) hs hd (by omega) (l.length - 1) _ _ a w.drew hH (wpAny_of_held _ _ _ _ (h hS))
  rw [show l.length - 1 + 1 = l.toArray.size by simp; omega] at this
  refine wp_region_any hm ?_
  rw [show Array.replicate l.toArray.size false = Array.replicate l.length false by simp]
  exact this
end
end Go.Proofs.YtejccafolfeabaaGreatDoor

/-
  kerfref04.Cross, walked.
-/
namespace Go.Proofs.YtejccafolfeabaaGreatDoor
open Go.RowKit Go.Maps

section
variable {w w' : World} {base p x : Nat} {An : Option Addr} {nn cn : Nat} {As : Option Addr} {ns cs : Nat} {xs : List (Option Addr × Nat × Nat)} {N : List (List UInt8)} {S : List (List (Int × Int))}
/-- A set more, with its ranges. -/
theorem RfX.moreSetL {w3 : World} {o : Obj} {A3 : Option Addr} {c3 b' : Nat} {y : Option Addr × Nat × Nat} {l : List (Int × Int)} (h : RfX w base p x An nn cn As ns cs xs N S) (hy : Own w b' 80 2 y.1 y.2.1 y.2.2 (l.map encR)) (hb' : base ≤ b')
    (ho3 : Own w3 base 37 1 A3 (ns + 1) c3 ((xs ++ [y]).map encSl))
    (hg3 : (w.alloc o).grownBy w3 (As.map (·.block))) (hA3 : A3 = As ∨ A3 = some ⟨(w.alloc o).heap.size, 0, none⟩) (hx : x < w.heap.size) (hB : base ≤ w.heap.size) :
    Blk w3 p 75 #[.slice An nn cn, .slice As ns cs] ∧ RfX (w3.setCell ⟨p, 1, none⟩ (.slice A3 (ns + 1) c3)) base p x An nn cn A3 (ns + 1) c3 (xs ++ [y]) N (S ++ [l]) ∧
      KX base x w (w3.setCell ⟨p, 1, none⟩ (.slice A3 (ns + 1) c3)) := by
  obtain ⟨t1, t2, t3, t4, t5, t6⟩ := types_rf
  have hg := grown_alloc hg3
  have b3 : Blk w3 p 75 #[.slice An nn cn, .slice As ns cs] := h.blk.grown hg (fun e => by cases As with | none => cases e | some a => simp at e; exact h.hs.off h.blk t3 a rfl e.symm)
  have n3 : Own w3 base 9 1 An nn cn (N.map encNm) := h.hn.grown hg (fun a ha e => by cases As with | none => cases e | some b => simp at e; exact h.hn.apart h.hs t1 a b ha rfl e)
  have x3 : Sets w3 base xs S := h.hx.grown hg (fun g q e => own_not_R h.hs t5 g q e)
  have y3 := hy.grown hg (fun a ha e => by cases As with | none => cases e | some b => simp at e; exact h.hs.apart hy t5 b a rfl ha e.symm)
  have hxA3 : ∀ a, A3 = some a → a.block ≠ x := fun a ha => by
    rcases hA3 with e | e
    · exact h.xs_ a (by rw [← e]; exact ha)
    · rw [e] at ha; injection ha with ha; subst ha; simp; omega
  refine ⟨b3, ⟨?_, h.pb, ?_, ?_, ?_, h.xp, h.xn, hxA3⟩, ?_⟩
  · have := b3.set_ 1 (.slice A3 (ns + 1) c3)
    simpa using this
  · exact n3.setCell (fun a ha => n3.off b3 t2 a ha) _
  · exact ho3.setCell (fun a ha => ho3.off b3 t3 a ha) _
  · exact (x3.setCell (blk_not_R b3 t6) _).snoc ((y3.setCell (p := ⟨p, 1, none⟩) (fun a ha => y3.off b3 (Ne.symm t6) a ha) _).more hb')
  · refine (KX.grown hg hB (fun k hk => ?_)).trans (KX.setCell w3 h.pb (fun e => h.xp e.symm) _)
    cases As with
    | none => cases hk
    | some a => simp at hk; subst hk; exact ⟨(h.hs.lt a rfl).1, h.xs_ a rfl⟩
/-- The foreign block may be any that lies lower. -/
theorem RfX.low {x' : Nat} (h : RfX w base p x An nn cn As ns cs xs N S) (hx : x' < base) : RfX w base p x' An nn cn As ns cs xs N S :=
  ⟨h.blk, h.pb, h.hn, h.hs, h.hx, by have := h.pb; omega, fun a ha => by have := (h.hn.lt a ha).1; omega, fun a ha => by have := (h.hs.lt a ha).1; omega⟩
end
theorem RfB.more {w : World} {b b' p x : Nat} {N : List (List UInt8)} {S : List (List (Int × Int))} (h : RfB w b p x N S) (hb : b' ≤ b) : RfB w b' p x N S := by
  obtain ⟨a1, a2, a3, a4, a5, a6, a7, h⟩ := h.ex
  exact ⟨a1, a2, a3, a4, a5, a6, a7, ⟨h.blk, Nat.le_trans hb h.pb, h.hn.more hb, h.hs.more hb, h.hx.more hb, h.xp, h.xn, h.xs_⟩⟩
/-- What the document's Cross leaves. -/
def CrEndV (r : Except Int DbP) (base : Nat) (e : Ending) (w' : World) : Prop :=
  match r with
  | .error k => e = .returned (.tuple #[.pointer none, .int .i64 k])
  | .ok d => ∃ p x, e = .returned (.tuple #[.pointer (some ⟨p, 0, none⟩), .int .i64 0]) ∧ RfB w' base p x d.names d.full
theorem CrEndV.err {r : Except Int DbP} {k : Int} {base : Nat} {w' : World} (h : r = .error k) : CrEndV r base (.returned (.tuple #[.pointer none, .int .i64 k])) w' := by rw [h]; exact rfl
theorem CrEndV.fine {r : Except Int DbP} {d : DbP} {p x base : Nat} {w' : World} (h : r = .ok d) (hd : RfB w' base p x d.names d.full) : CrEndV r base (.returned (.tuple #[.pointer (some ⟨p, 0, none⟩), .int .i64 0])) w' := by rw [h]; exact ⟨p, x, rfl, hd⟩
theorem own_pairV {w : World} {t : TypeId} {u v : Value} {base : Nat} (hb : base ≤ w.heap.size) : Own (w.alloc (.cells #[u, v] t)) base t 2 (some ⟨w.heap.size, 0, none⟩) 1 1 [[u, v]] :=
  ⟨rfl, by simp, by simp, .inr ⟨w.heap.size, 1, #[u, v], rfl, hb, heap_alloc_new _ _, Nat.le_refl _, by unfold maxLen; omega, rfl, by simp⟩⟩
theorem named_lenV {d : DbP} (h : d.Named) {i : Nat} {n : List UInt8} (hn : d.names[i]? = some n) : n.length ≤ 32 := by
  have := h n (List.mem_of_getElem? hn)
  cases n with
  | nil => simp
  | cons c r =>
    unfold nameL at this
    simp only [Bool.and_eq_true, decide_eq_true_eq] at this
    simp only [List.length_cons]
    omega
theorem cat_nmV {x y : List UInt8} : bytesOf x ++ ⟨#[95]⟩ ++ bytesOf y = bytesOf (x ++ 95 :: y) := by
  apply ByteArray.ext; apply Array.toList_inj.1; simp [bytesOf]
theorem low_app {base : Nat} {w w9 : World} {o : Obj} {e : TypeId} {s n c : Nat} {A : Option Addr} {cs : List (List Value)} (hA : Own w base e s A n c cs) (hB : base ≤ w.heap.size) (h : (w.alloc o).grownBy w9 (A.map (·.block))) {ad : Addr} {u : Value} (hlt : ad.block < base) (hc : w.cell? ad = some u) : w9.cell? ad = some u :=
  (World.cell?_of_block ((h.block ad.block (by simp; omega) (fun e => by cases A with | none => cases e | some z => have := (hA.lt z rfl).1; simp at e; omega)).trans (Below.heap_alloc w o ad.block (by omega)))).trans hc
theorem cell_allocV {w : World} {p : Addr} {u : Value} (h : w.cell? p = some u) (o : Obj) : (w.alloc o).cell? p = some u := cell_keep h ((Below.refl _ _).alloc (Nat.le_refl _) o)
theorem begL_le (S : List (List (Int × Int))) (c : Nat) : (begL (S.take c)).length ≤ lenS S := by
  rw [begL_len, ← lenS_flat]; exact flat_le S c

set_option maxRecDepth 100000 in
set_option maxHeartbeats 16000000 in
theorem vCross_core (p q x1 x2 ba bb : Nat) (a b : DbP) (w : World) (hp : RfB w ba p x1 a.names a.full) (hq : RfB w bb q x2 b.names b.full) (oa : a.Ok) (aa : Apart a.sets) (ob : b.Ok) (ab : Apart b.sets) (na : a.Named) (nb : b.Named) (T : List (Nat × Nat)) (R : Except Int DbP) (HC : Hid (R = crossT a b T)) (h0 : 0 < T.length)
    (HL : Hid (∀ t, t ∈ T → t.1 < a.names.length ∧ t.2 < b.names.length)) (HOK : Hid (∀ d, R = .ok d → d.Ok ∧ Apart d.sets))
    (HT : Hid (∀ L : List Int, L.Perm (begL a.full ++ begL b.full) → L.Pairwise (· ≤ ·) → (L.map (pairG a b)).foldl ded1 [(0, 0)] = T)) :
    Calls Tryz.prog 32 #[.pointer (some ⟨p, 0, none⟩), .pointer (some ⟨q, 0, none⟩)] w fun e w' => CrEndV R w.heap.size e w' ∧ Below w.heap.size w w' := by
  obtain ⟨i0, hi0, hz0, hz1, hz2⟩ := info_parts (show (Tryz.prog.info? 21).map (fun i => (i.zero, i.size, i.bytes)) = some (some (.int .i32 0), 1, 4) by kernel_rfl)
  obtain ⟨i1, hi1, hza1, hza2, hza3⟩ := info_parts (show (Tryz.prog.info? 107).map (fun i => (i.zero, i.size, i.bytes)) = some (some (.agg #[.int .i64 0, .int .i64 0]), 2, 16) by kernel_rfl)
  obtain ⟨is1, his1, hzs1, hzs2, hzs3⟩ := info_parts (show (Tryz.prog.info? 9).map (fun i => (i.zero, i.size, i.bytes)) = some (some (.string ByteArray.empty), 1, 16) by kernel_rfl)
  obtain ⟨iz1, hiz1, hzz1, hzz2, hzz3⟩ := info_parts (show (Tryz.prog.info? 37).map (fun i => (i.zero, i.size, i.bytes)) = some (some (.slice none 0 0), 1, 24) by kernel_rfl)
  have HO := Lib.hid (And.intro oa (And.intro aa (And.intro ob ab)))
  have HNa := Lib.hid (And.intro na nb)
  have HGa := Lib.hid (fun r W h => vGet_any ba p x1 a r W h oa aa)
  have HGb := Lib.hid (fun r W h => vGet_any bb q x2 b r W h ob ab)
  have HLa : Hid (lenS a.full ≤ 1114112) := Lib.hid (full_lenS oa aa)
  have HLb : Hid (lenS b.full ≤ 1114112) := Lib.hid (full_lenS ob ab)
  obtain ⟨SA, HSA⟩ : ∃ S, Hid (a.full = S) := ⟨_, rfl⟩
  obtain ⟨SB, HSB⟩ : ∃ S, Hid (b.full = S) := ⟨_, rfl⟩
  rw [HSA.out] at HLa HT
  rw [HSB.out] at HLb HT
  have hpx := hp.ex
  have hqx := hq.ex
  rw [HSA.out] at hpx
  rw [HSB.out] at hqx
  obtain ⟨Ana, nna, cna, Asa, nsa, csa, xsa, hXa⟩ := hpx
  obtain ⟨Anb, nnb, cnb, Asb, nsb, csb, xsb, hXb⟩ := hqx
  have hnsa : nsa ≤ 64 := by have h1 := hXa.lenS.2; have h2 := full_len oa; rw [HSA.out] at h2; have h3 := oa.len; have h4 := oa.few; omega
  have hnsb : nsb ≤ 64 := by have h1 := hXb.lenS.2; have h2 := full_len ob; rw [HSB.out] at h2; have h3 := ob.len; have h4 := ob.few; omega
  clear oa aa ob ab na nb
  go_enter Tryz.func32, Tryz.ntmps32
  go_wp2_with fail
  go_loopw [6, 7] (fun v6 v wr => ∃ (c : Nat) (A : Option Addr) (n ca : Nat), v6 = .slice A n ca ∧ v = .int .i64 c ∧ c ≤ nsa ∧ Own wr w.heap.size 21 1 A n ca ((begL (SA.take c)).map encI) ∧ Below w.heap.size w wr) (fun _ v _ => nsa - (intOf v).toNat)
  case atStart => exact ⟨0, none, 0, 0, rfl, rfl, by omega, Own.nil_ _ _ _ _, Below.refl _ _⟩
  case round =>
    obtain ⟨c, A, n, ca, rfl, rfl, hc, ho, hb⟩ := hrel
    have hszr := hb.size
    have e1 := (hXa.blk.below hb).cell 1
    simp only [List.getElem?_toArray, List.getElem?_cons_zero, List.getElem?_cons_succ] at e1
    have hnl := begL_le SA c
    have hn1 : n ≤ 1114112 := by have h1 := ho.len; rw [List.length_map] at h1; have := HLa.out; omega
    by_cases hlt : c < nsa
    · obtain ⟨s, hs⟩ : ∃ s, SA[c]? = some s := ⟨_, List.getElem?_eq_getElem (show c < SA.length by have := hXa.lenS.2; omega)⟩
      obtain ⟨y, hy⟩ : ∃ y, xsa[c]? = some y := ⟨_, List.getElem?_eq_getElem (show c < xsa.length by have := hXa.lenS.1; omega)⟩
      obtain ⟨g, HAs, _, _⟩ := hXa.hs.form (by omega : 0 < nsa)
      have hcell := cell_keep (hXa.hs.cell' HAs hy) hb
      subst HAs
      have hoy := hXa.hx.own c y s hy hs
      have hly : s.length = y.2.1 := by simpa using hoy.len
      have hrd := (hoy.below hb).rd (by omega)
      have HB2 := Lib.hid (begL_in hs)
      have hn2 := begL_le SA (c + 1)
      rw [HB2.out, List.length_append, List.length_map] at hn2
      have hnn : n + y.2.1 ≤ 1114112 := by have h1 := ho.len; rw [List.length_map] at h1; have := HLa.out; omega
      have HV := Lib.hid (vbegins_any y.1 y.2.1 y.2.2 s wr hrd hly (by omega))
      have Hly := Lib.hid hly
      clear hs hy hly hrd hnl hn2
      go_wp2_with fail
      refine HV.out.mono ?_
      rintro e w5 ⟨A', c', rfl, ho', hb5⟩
      have hb5' := below_step hb hb5 hszr
      have hsz5 := hb5'.size
      go_wp2_with (at_builtin; go_must (refine wpList_app rfl (.tmp 33) (.tmp 41) _ rfl w.heap.size 21 i0 _ 1 4 Tryz.underlying24 hi0 hz0 hz1 hz2 rfl (by omega) A n ca ((begL (SA.take c)).map encI) rfl (ho.below hb5) A' y.2.1 c' ((s.map (·.1)).map encI) rfl (by rw [List.length_map, List.length_map]; exact Hly.out) (ho'.rd (by omega)) (encI_ok _) (by unfold maxLen; omega) (by omega) (by omega) ?_); intro A3 c3 w6 ho6 hg6 hA6)
      have Ho6 : Own w6 w.heap.size 21 1 A3 (n + y.2.1) c3 ((begL (SA.take (c + 1))).map encI) := by rw [HB2.out, List.map_append]; exact ho6
      have hb6 := below_app hb5' hg6 hsz5 (fun a ha => (ho.lt a ha).1)
      clear ho6 hg6
      go_roundw
      case rel => exact ⟨c + 1, A3, n + y.2.1, c3, rfl, by go_num, by omega, Ho6, hb6⟩
      case measure => simp [intOf]; omega
    · obtain rfl : c = nsa := by omega
      have HBe : Hid (SA.take c = SA) := Lib.hid (List.take_of_length_le (by have := hXa.lenS.2; omega))
      rw [HBe.out] at ho hnl
      have hnA : n ≤ lenS SA := by have h1 := ho.len; rw [List.length_map] at h1; omega
      clear hlt HBe
      go_wp2_with fail
      go_loopw [6, 8] (fun v6 v wr => ∃ (c : Nat) (A : Option Addr) (n ca : Nat), v6 = .slice A n ca ∧ v = .int .i64 c ∧ c ≤ nsb ∧ Own wr w.heap.size 21 1 A n ca ((begL SA ++ begL (SB.take c)).map encI) ∧ Below w.heap.size w wr) (fun _ v _ => nsb - (intOf v).toNat)
      case atStart => exact ⟨0, A, n, ca, rfl, rfl, by omega, by simpa [begL] using ho, hb⟩
      case round =>
        clear ho hb hnl hnA hn1 e1
        obtain ⟨c, A, n, ca, rfl, rfl, hc, ho, hb⟩ := hrel
        have hszr := hb.size
        have e1 := (hXb.blk.below hb).cell 1
        simp only [List.getElem?_toArray, List.getElem?_cons_zero, List.getElem?_cons_succ] at e1
        have hnl := begL_le SB c
        have hn0 : (begL SA).length ≤ 1114112 := by rw [begL_len]; exact HLa.out
        have hn1 : n ≤ 2228224 := by have h1 := ho.len; rw [List.length_map, List.length_append] at h1; have := HLb.out; omega
        by_cases hlt : c < nsb
        · obtain ⟨s, hs⟩ : ∃ s, SB[c]? = some s := ⟨_, List.getElem?_eq_getElem (show c < SB.length by have := hXb.lenS.2; omega)⟩
          obtain ⟨y, hy⟩ : ∃ y, xsb[c]? = some y := ⟨_, List.getElem?_eq_getElem (show c < xsb.length by have := hXb.lenS.1; omega)⟩
          obtain ⟨g, HAs, _, _⟩ := hXb.hs.form (by omega : 0 < nsb)
          have hcell := cell_keep (hXb.hs.cell' HAs hy) hb
          subst HAs
          have hoy := hXb.hx.own c y s hy hs
          have hly : s.length = y.2.1 := by simpa using hoy.len
          have hrd := (hoy.below hb).rd (by omega)
          have HB2 := Lib.hid (begL_in hs)
          have hn2 := begL_le SB (c + 1)
          rw [HB2.out, List.length_append, List.length_map] at hn2
          have hnn : n + y.2.1 ≤ 2228224 := by have h1 := ho.len; rw [List.length_map, List.length_append] at h1; have := HLb.out; omega
          have HV := Lib.hid (vbegins_any y.1 y.2.1 y.2.2 s wr hrd hly (by omega))
          have Hly := Lib.hid hly
          clear hs hy hly hrd hnl hn2 hn0
          go_wp2_with fail
          refine HV.out.mono ?_
          rintro e w5 ⟨A', c', rfl, ho', hb5⟩
          have hb5' := below_step hb hb5 hszr
          have hsz5 := hb5'.size
          go_wp2_with (at_builtin; go_must (refine wpList_app rfl (.tmp 52) (.tmp 60) _ rfl w.heap.size 21 i0 _ 1 4 Tryz.underlying24 hi0 hz0 hz1 hz2 rfl (by omega) A n ca ((begL SA ++ begL (SB.take c)).map encI) rfl (ho.below hb5) A' y.2.1 c' ((s.map (·.1)).map encI) rfl (by rw [List.length_map, List.length_map]; exact Hly.out) (ho'.rd (by omega)) (encI_ok _) (by unfold maxLen; omega) (by omega) (by omega) ?_); intro A3 c3 w6 ho6 hg6 hA6)
          have Ho6 : Own w6 w.heap.size 21 1 A3 (n + y.2.1) c3 ((begL SA ++ begL (SB.take (c + 1))).map encI) := by rw [HB2.out, ← List.append_assoc, List.map_append]; exact ho6
          have hb6 := below_app hb5' hg6 hsz5 (fun a ha => (ho.lt a ha).1)
          clear ho6 hg6
          go_roundw
          case rel => exact ⟨c + 1, A3, n + y.2.1, c3, rfl, by go_num, by omega, Ho6, hb6⟩
          case measure => simp [intOf]; omega
        · obtain rfl : c = nsb := by omega
          have HBe : Hid (SB.take c = SB) := Lib.hid (List.take_of_length_le (by have := hXb.lenS.2; omega))
          rw [HBe.out] at ho
          clear hlt HBe hnl hn0
          go_wp2_with fail
          refine (vsort_any w.heap.size A n ca _ wr ho (by omega)).mono ?_
          rintro e w3 ⟨rfl, L, HLp, HLs, hoL, hb3⟩
          have hbS := hb.trans hb3
          have HTL := Lib.hid (HT.out L HLp.out HLs.out)
          have hLn : L.length = n := by simpa using hoL.len
          have HLn := Lib.hid hLn
          have Bp : Own (w3.alloc (.cells #[.int .i64 0, .int .i64 0] 107)) w.heap.size 107 2 (some ⟨w3.heap.size, 0, none⟩) 1 1 ([((0 : Nat), (0 : Nat))].map encTwo) := own_pairV hbS.size
          clear ho hb hb3 hLn HLp HLs
          have hbS2 := hbS.alloc (o := .cells #[.int .i64 0, .int .i64 0] 107) hbS.size
          have hoL2 := hoL.alloc (.cells #[.int .i64 0, .int .i64 0] 107)
          go_wp2_with fail
          generalize (w3.alloc (.cells #[.int .i64 0, .int .i64 0] 107)) = w4 at Bp hbS2 hoL2 ⊢
          generalize w3.heap.size = g3 at Bp ⊢
          clear hbS hoL
          go_loopw [9, 10] (fun v9 v wr => ∃ (i : Nat) (Ti : List (Nat × Nat)) (g1 n1 c1 : Nat), v9 = .slice (some ⟨g1, 0, none⟩) n1 c1 ∧ v = .int .i64 i ∧ i ≤ n ∧ n1 ≤ i + 1 ∧ Hid (((L.take i).map (pairG a b)).foldl ded1 [(0, 0)] = Ti) ∧ Own wr w.heap.size 107 2 (some ⟨g1, 0, none⟩) n1 c1 (Ti.map encTwo) ∧ Own wr w.heap.size 21 1 A n ca (L.map encI) ∧ Below w.heap.size w wr) (fun _ v _ => n - (intOf v).toNat)
          case atStart => exact ⟨0, [(0, 0)], g3, 1, 1, rfl, rfl, by omega, by omega, rfl, Bp, hoL2, hbS2⟩
          case round =>
            clear Bp hoL2 hbS2
            obtain ⟨i, Ti, g1, n1, c1, rfl, rfl, hi, hn1i, HTi, hoT, hoL, hb⟩ := hrel
            have hszr := hb.size
            by_cases hlt : i < n
            · obtain ⟨gA, rfl, hgA1, hgA2⟩ := hoL.form (by omega : 0 < n)
              obtain ⟨r, hr⟩ : ∃ r, L[i]? = some r := ⟨_, List.getElem?_eq_getElem (show i < L.length by have := HLn.out; omega)⟩
              have k0 := hoL.cellI hr
              have HTn : Hid (((L.take (i + 1)).map (pairG a b)).foldl ded1 [(0, 0)] = ded1 Ti (a.get r, b.get r)) := Lib.hid (by rw [List.take_add_one, hr, ← HTi.out]; simp [pairG])
              have HG1 := Lib.hid (fun W (h : Below wr.heap.size wr W) => HGa.out r W (hp.below (hb.trans (h.mono hszr))))
              have HG2 := Lib.hid (fun W (h : Below wr.heap.size wr W) => HGb.out r W (hq.below (hb.trans (h.mono hszr))))
              generalize a.get r = ga at HG1 HTn
              generalize b.get r = gb at HG2 HTn
              clear hr
              go_wp2_with fail
              refine wp_region_noPanic ?_
              go_region_law (first
                | (go_simp; go_at_call 46; ((with_reducible refine (HG1.out _ (by first | exact (Below.refl _ _).drew | exact ((Below.refl _ _).alloc (Nat.le_refl _) _).drew)).mono ?_); rintro e w' ⟨rfl, rfl⟩))
                | (go_simp; go_at_call 46; ((with_reducible refine (HG2.out _ (by first | exact (Below.refl _ _).drew | exact ((Below.refl _ _).alloc (Nat.le_refl _) _).drew)).mono ?_); rintro e w' ⟨rfl, rfl⟩)))
              all_goals
                refine NoPanic.normal ?_
                have hbp : Below wr.heap.size wr ((wr.alloc (.cells #[.int .i64 (ga : Nat), .int .i64 (gb : Nat)] 107)).drew) := ((Below.refl _ _).alloc (Nat.le_refl _) _).drew
                have B2 : Blk ((wr.alloc (.cells #[.int .i64 (ga : Nat), .int .i64 (gb : Nat)] 107)).drew) wr.heap.size 107 #[.int .i64 (ga : Nat), .int .i64 (gb : Nat)] := (Blk.new wr 107 _).drew
                generalize ((wr.alloc (.cells #[.int .i64 (ga : Nat), .int .i64 (gb : Nat)] 107)).drew) = wp at hbp B2 ⊢
                have hoTp := hoT.below hbp
                have hbwp := hb.trans (hbp.mono hszr)
                have q0 := B2.cell 0
                have q1 := B2.cell 1
                simp only [List.getElem?_toArray, List.getElem?_cons_zero, List.getElem?_cons_succ] at q0 q1
                have hTl : Ti.length = n1 := by simpa using hoT.len
                go_wp2_with fail
                refine (vfind_any _ n1 c1 Ti (ga, gb) wp (hoTp.rd (by omega)) hTl (by omega)).mono ?_
                rintro e w5 ⟨z, rfl, hres, hb5⟩
                have hoT5 := hoTp.below hb5
                have hoL5 := (hoL.below hbp).below hb5
                have hb5w := hbwp.trans (hb5.mono hbwp.size)
                have hsz5 := hb5w.size
                have u0 := cell_keep q0 hb5
                have u1 := cell_keep q1 hb5
                have HTl := Lib.hid hTl
                clear q0 q1 B2 hbp hb5 hoTp hbwp hTl
                rcases hres with ⟨k, rfl, hk⟩ | ⟨rfl, hnot⟩
                · have HTm : Hid (((L.take (i + 1)).map (pairG a b)).foldl ded1 [(0, 0)] = Ti) := Lib.hid (by rw [HTn.out, ded1_in (List.mem_of_getElem? hk)])
                  clear hk
                  go_wp2
                  go_roundw
                  case rel => exact ⟨i + 1, Ti, g1, n1, c1, rfl, by go_num, by omega, by omega, HTm, hoT5, hoL5, hb5w⟩
                  case measure => simp [intOf]; omega
                · have HTm : Hid (((L.take (i + 1)).map (pairG a b)).foldl ded1 [(0, 0)] = Ti ++ [(ga, gb)]) := Lib.hid (by rw [HTn.out]; exact if_neg hnot)
                  clear hnot
                  go_wp2_with (at_builtin; go_must (refine wpList_app rfl (.tmp 89) (.tmp 91) _ rfl w.heap.size 107 i1 _ 2 16 Tryz.underlying108 hi1 hza1 hza2 hza3 rfl (by omega) (some ⟨g1, 0, none⟩) n1 c1 (Ti.map encTwo) rfl (hoT5.alloc _) _ 1 1 [encTwo (ga, gb)] rfl rfl (Rd.newAt (by simp) rfl) (encTwo_ok [(ga, gb)]) (by unfold maxLen; omega) (by omega) (by simp; omega) ?_); intro A7 c7 w7 ho7 hg7 hA7)
                  have Ho7 : Own w7 w.heap.size 107 2 A7 (n1 + 1) c7 ((Ti ++ [(ga, gb)]).map encTwo) := by rw [List.map_append]; exact ho7
                  have HoL7 := (hoL5.alloc _).grown hg7 (fun a ha e => by simp at e; exact hoT5.apart hoL5 (show (107 : TypeId) ≠ 21 by decide) ⟨g1, 0, none⟩ a rfl ha e.symm)
                  have hb7 := below_app (hb5w.alloc hsz5 (.cells #[.int .i64 (ga : Nat), .int .i64 (gb : Nat)] 107)) hg7 (by simp; omega) (fun a ha => (hoT5.lt a ha).1)
                  obtain ⟨g7, rfl, _, _⟩ := Ho7.form (by omega)
                  clear ho7 hg7 hA7
                  go_roundw
                  case rel => exact ⟨i + 1, Ti ++ [(ga, gb)], g7, n1 + 1, c7, rfl, by go_num, by omega, by omega, HTm, Ho7, HoL7, hb7⟩
                  case measure => simp [intOf]; omega
            · obtain rfl : i = n := by omega
              obtain rfl : Ti = T := by
                have h1 := HTi.out
                rw [List.take_of_length_le (by have := HLn.out; omega), HTL.out] at h1
                exact h1.symm
              have hTl : Ti.length = n1 := by simpa using hoT.len
              have HTl := Lib.hid hTl
              rw [hTl] at h0
              clear hTl HT HTi HTL hoL HGa HGb hlt
              by_cases hmany : 64 < n1
              · have hE : Hid (R = .error 6) := Lib.hid (by rw [HC.out]; exact crossT_many (by rw [HTl.out]; exact hmany))
                have d1 : decide (64 < n1) = true := decide_eq_true hmany
                go_wp2
                go_ret2
                exact ⟨CrEndV.err hE.out, hb⟩
              have d1 : decide (64 < n1) = false := decide_eq_false hmany
              obtain ⟨hX0, hB0⟩ := rfX_first wr
              have hX := hX0.low (x' := 0) (by have := (hoT.lt ⟨g1, 0, none⟩ rfl).2; simp only at this; omega)
              go_wp2_with fail
              rw [show (⟨#[79, 116, 104, 101, 114]⟩ : ByteArray) = bytesOf otherL from rfl]
              generalize (((wr.alloc (.cells #[.string (bytesOf otherL)] 9)).alloc (.cells #[.slice none 0 0] 37)).alloc (.cells #[.slice (some ⟨wr.heap.size, 0, none⟩) 1 1, .slice (some ⟨wr.heap.size + 1, 0, none⟩) 1 1] 75)) = w3 at hX hB0 ⊢
              generalize wr.heap.size + 2 = P at hX ⊢
              have hNl := crossN_len (a := a) (b := b) (T := Ti) (by rw [HTl.out]; exact h0)
              have hSl := crossS_len (a := a) (b := b) (T := Ti) (by rw [HTl.out]; exact h0)
              have HNl := Lib.hid (And.intro hNl hSl)
              have hXar := hXa.below hb
              have hXbr := hXb.below hb
              clear hX0 hXa hXb hp hq hNl hSl
              obtain ⟨wo, hwo⟩ : ∃ u, u = wr := ⟨_, rfl⟩
              subst hwo
              go_loopw [13] (fun v ws => ∃ (j : Nat) (N : List (List UInt8)) (S : List (List (Int × Int))), v = .int .i64 j ∧ 1 ≤ j ∧ j ≤ n1 ∧ Hid (N = (crossN a b Ti).take j) ∧ Hid (S = (crossS a b Ti).take j) ∧ RfB ws wo.heap.size P 0 N S ∧ Below wo.heap.size wo ws) (fun v _ => n1 - (intOf v).toNat)
              case atStart => exact ⟨1, [otherL], [[]], rfl, by omega, by omega, rfl, rfl, ⟨_, _, _, _, _, _, _, hX⟩, hB0⟩
              case round =>
                clear hX hB0
                obtain ⟨j, N, S, rfl, hj1, hjn, HN, HS, hd, hbs⟩ := hrel
                have hszs := hbs.size
                by_cases hlt : j < n1
                · obtain ⟨⟨pa, pb⟩, hti⟩ : ∃ t, Ti[j]? = some t := ⟨_, List.getElem?_eq_getElem (show j < Ti.length by have := HTl.out; omega)⟩
                  have hlp := HL.out _ (List.mem_of_getElem? hti)
                  simp only at hlp
                  obtain ⟨xa, hxa⟩ : ∃ x, a.names[pa]? = some x := ⟨_, List.getElem?_eq_getElem hlp.1⟩
                  obtain ⟨xb, hxb⟩ : ∃ x, b.names[pb]? = some x := ⟨_, List.getElem?_eq_getElem hlp.2⟩
                  obtain ⟨sa, hsa⟩ : ∃ x, SA[pa]? = some x := ⟨_, List.getElem?_eq_getElem (by rw [← HSA.out, full_len HO.out.1]; exact hlp.1)⟩
                  obtain ⟨sb, hsb⟩ : ∃ x, SB[pb]? = some x := ⟨_, List.getElem?_eq_getElem (by rw [← HSB.out, full_len HO.out.2.2.1]; exact hlp.2)⟩
                  have hnm : nmP a b (pa, pb) = xa ++ 95 :: xb := by unfold nmP; rw [List.getD_eq_getElem?_getD, List.getD_eq_getElem?_getD, hxa, hxb]; rfl
                  have hst : setP a b (pa, pb) = andR sa sb := by unfold setP; rw [List.getD_eq_getElem?_getD, List.getD_eq_getElem?_getD, HSA.out, HSB.out, hsa, hsb]; rfl
                  have HN2 : Hid (N ++ [xa ++ 95 :: xb] = (crossN a b Ti).take (j + 1)) := Lib.hid (by obtain ⟨i, rfl⟩ : ∃ i, j = i + 1 := ⟨j - 1, by omega⟩; rw [take_more (crossN_at hti), HN.out, hnm])
                  have HS2 : Hid (S ++ [andR sa sb] = (crossS a b Ti).take (j + 1)) := Lib.hid (by obtain ⟨i, rfl⟩ : ∃ i, j = i + 1 := ⟨j - 1, by omega⟩; rw [take_more (crossS_at hti), HS.out, hst])
                  have hla := named_lenV HNa.out.1 hxa
                  have hlb := named_lenV HNa.out.2 hxb
                  have hza : (bytesOf xa).size ≤ 32 := by rw [bytesOf_size]; exact hla
                  have hzb : (bytesOf xb).size ≤ 32 := by rw [bytesOf_size]; exact hlb
                  have hlt' : ∀ u, u ∈ [pa, pb] → u ≤ 64 := by
                    intro u hu
                    simp only [List.mem_cons, List.not_mem_nil, or_false] at hu
                    rcases hu with rfl | rfl
                    · have := HO.out.1.few; omega
                    · have := HO.out.2.2.1.few; omega
                  have ⟨kT0, kT1⟩ := (hoT.below hbs).cell2 hti
                  simp only at kT0 kT1
                  -- what stands at wr of both databases
                  have hna := hXar.lenN
                  have hnb := hXbr.lenN
                  obtain ⟨gNa, eNa, _, _⟩ := hXar.hn.form (by omega)
                  obtain ⟨gNb, eNb, _, _⟩ := hXbr.hn.form (by omega)
                  obtain ⟨gSa, eSa, _, _⟩ := hXar.hs.form (by have := hXar.lenS.2; have := (List.getElem?_eq_some_iff.1 hsa).1; omega)
                  obtain ⟨gSb, eSb, _, _⟩ := hXbr.hs.form (by have := hXbr.lenS.2; have := (List.getElem?_eq_some_iff.1 hsb).1; omega)
                  obtain ⟨ya, hya⟩ : ∃ y, xsa[pa]? = some y := ⟨_, List.getElem?_eq_getElem (show pa < xsa.length by have := hXar.lenS; have := (List.getElem?_eq_some_iff.1 hsa).1; omega)⟩
                  obtain ⟨yb, hyb⟩ : ∃ y, xsb[pb]? = some y := ⟨_, List.getElem?_eq_getElem (show pb < xsb.length by have := hXbr.lenS; have := (List.getElem?_eq_some_iff.1 hsb).1; omega)⟩
                  have rSa := hXar.hs.cell' eSa hya
                  have rSb := hXbr.hs.cell' eSb hyb
                  have hoa := hXar.hx.own pa ya sa hya hsa
                  have hob := hXbr.hx.own pb yb sb hyb hsb
                  have hNFa := full_NF HO.out.1 sa (by rw [HSA.out]; exact List.mem_of_getElem? hsa)
                  have hNFb := full_NF HO.out.2.2.1 sb (by rw [HSB.out]; exact List.mem_of_getElem? hsb)
                  have hya2 := own_nf_len hoa hNFa
                  have hyb2 := own_nf_len hob hNFb
                  have hlya : sa.length = ya.2.1 := by simpa using hoa.len
                  have hlyb : sb.length = yb.2.1 := by simpa using hob.len
                  subst eNa; subst eNb; subst eSa; subst eSb
                  have rNa := hXar.hn.cell (k := pa) (j := 0) (x := encNm xa) (u := .string (bytesOf xa)) (by rw [List.getElem?_map, hxa]; rfl) rfl
                  have rNb := hXbr.hn.cell (k := pb) (j := 0) (x := encNm xb) (u := .string (bytesOf xb)) (by rw [List.getElem?_map, hxb]; rfl) rfl
                  have ra0 := hXar.blk.cell 0
                  have ra1 := hXar.blk.cell 1
                  have rb0 := hXbr.blk.cell 0
                  have rb1 := hXbr.blk.cell 1
                  simp only [List.getElem?_toArray, List.getElem?_cons_zero, List.getElem?_cons_succ, Nat.mul_one, Nat.add_zero] at rNa rNb ra0 ra1 rb0 rb1
                  have hpan : pa < nna := by omega
                  have hpbn : pb < nnb := by omega
                  have hpas := (List.getElem?_eq_some_iff.1 hya).1
                  have hpbs := (List.getElem?_eq_some_iff.1 hyb).1
                  rw [hXar.lenS.1] at hpas
                  rw [hXbr.lenS.1] at hpbs
                  obtain ⟨An, nn, cn, As, ns, cs, xs, hX⟩ := hd.ex
                  have hXd := hX.below (w' := wr.drew) ((Below.refl _ _).drew)
                  have k0 := hX.blk.cell 0
                  simp only [List.getElem?_toArray, List.getElem?_cons_zero] at k0
                  have hN1 : nn ≤ 64 ∧ ns ≤ 64 := by
                    have h1 := hX.lenN; have h2 := hX.lenS.2; have h3 := HN.out; have h4 := HS.out
                    have h5 : N.length ≤ j := by rw [h3, List.length_take]; omega
                    have h6 : S.length ≤ j := by rw [h4, List.length_take]; omega
                    omega
                  obtain ⟨hnn, hns⟩ := hN1
                  have HPa := Lib.hid (And.intro hlya hlyb)
                  have hxw : 0 < wr.heap.size := by have := (hoT.lt ⟨g1, 0, none⟩ rfl).2; simp only at this; omega
                  have jNa := cell_keep rNa hbs
                  have jNb := cell_keep rNb hbs
                  have ja0 := cell_keep ra0 hbs
                  have jb0 := cell_keep rb0 hbs
                  have lT : g1 < wr.heap.size := by have := (hoT.lt ⟨g1, 0, none⟩ rfl).2; simp only at this; omega
                  have lNa : gNa < wr.heap.size := cell_lt jNa
                  have lNb : gNb < wr.heap.size := cell_lt jNb
                  have lp : p < wr.heap.size := cell_lt ja0
                  have lq : q < wr.heap.size := cell_lt jb0
                  have lP : P < wr.heap.size := cell_lt k0
                  have hnl : (xa ++ 95 :: xb).length ≤ 65 := by simp; omega
                  have Hti := Lib.hid hti
                  clear hti hxa hxb hsa hsb hya hyb hnm hst hlya hlyb hlp hna hnb hd hX
                  have hq1 : ¬ 9223372036854775807 < (bytesOf xa).size + 1 := by omega
                  have hq2 : ¬ 9223372036854775807 < (bytesOf xa).size + 1 + (bytesOf xb).size := by omega
                  have HK9 := Lib.hid (fun (o : Obj) (w9 : World) (h : (wr.drew.alloc o).grownBy w9 (An.map (·.block))) (ad : Addr) (u : Value) (hlt : ad.block < wo.heap.size) (hc : wr.cell? ad = some u) =>
                    show w9.cell? ad = some u from (World.cell?_of_block ((h.block ad.block (by simp; omega) (fun e => by cases An with | none => cases e | some z => have := (hXd.hn.lt z rfl).1; simp at e; omega)).trans (Below.heap_alloc wr.drew o ad.block (by show ad.block < wr.heap.size; omega)))).trans hc)
                  have mP := cell_lt ra0
                  have mQ := cell_lt rb0
                  have mNa := cell_lt rNa
                  have mNb := cell_lt rNb
                  have mT : g1 < wo.heap.size := by have := (hoT.lt ⟨g1, 0, none⟩ rfl).2; simp only at this; omega
                  simp only at mP mQ mNa mNb
                  go_wp2_with fail
                  refine wp_region_last (S := fun V => V.cell? ⟨P, 0, none⟩ = some (.slice An nn cn) ∧ V.cell? ⟨p, 0, none⟩ = some (.slice (some ⟨gNa, 0, none⟩) nna cna) ∧ V.cell? ⟨q, 0, none⟩ = some (.slice (some ⟨gNb, 0, none⟩) nnb cnb) ∧ V.cell? ⟨g1, j * 2, none⟩ = some (.int .i64 (pa : Nat)) ∧ V.cell? ⟨g1, j * 2 + 1, none⟩ = some (.int .i64 (pb : Nat)) ∧ V.cell? ⟨gNa, pa, none⟩ = some (.string (bytesOf xa)) ∧ V.cell? ⟨gNb, pb, none⟩ = some (.string (bytesOf xb))) 33 rfl (by kernel_rfl) (by kernel_rfl) (by kernel_rfl) ⟨k0, ja0, jb0, kT0, kT1, jNa, jNb⟩ (fun hHeld => ?_)
                  simp only [List.dropLast_cons_cons, List.dropLast_singleton]
                  refine wpAnyH_take (i := 0) (v := ?_) rfl (by kernel_rfl) (by kernel_rfl) (by kernel_rfl) (fun _ _ _ h => h) (Or.inl ⟨by rfl, ?_⟩) (by assumption) ?_; rotate_left; focus ((intro w hSw; (try dsimp only at hSw); go_simp); try with_reducible rfl)
                  (try simp only [Act.put, List.getElem_toArray, List.getElem_cons_zero, List.setIfInBounds_toArray, List.set_cons_zero, List.set_cons_succ])
                  refine wpAnyH_take (i := 1) (v := ?_) rfl (by kernel_rfl) (by kernel_rfl) (by kernel_rfl) (fun _ _ _ h => h) (Or.inl ⟨by rfl, ?_⟩) (by assumption) ?_; rotate_left; focus ((intro w hSw; (try dsimp only at hSw); go_simp); try with_reducible rfl)
                  (try simp only [Act.put, List.getElem_toArray, List.getElem_cons_succ, List.getElem_cons_zero, List.setIfInBounds_toArray, List.set_cons_zero, List.set_cons_succ])
                  refine wpAnyH_take (i := 2) (v := ?_) rfl (by kernel_rfl) (by kernel_rfl) (by kernel_rfl) (fun _ _ _ h => h) (Or.inl ⟨by rfl, ?_⟩) (by assumption) ?_; rotate_left; focus ((intro w hSw; (try dsimp only at hSw); go_simp); try with_reducible rfl)
                  (try simp only [Act.put, List.getElem_toArray, List.getElem_cons_succ, List.getElem_cons_zero, List.setIfInBounds_toArray, List.set_cons_zero, List.set_cons_succ])
                  refine wpAnyH_take (i := 3) (v := ?_) rfl (by kernel_rfl) (by kernel_rfl) (by kernel_rfl) (fun _ _ _ h => h) (Or.inl ⟨by rfl, ?_⟩) (by assumption) ?_; rotate_left; focus ((intro w hSw; (try dsimp only at hSw); go_simp); try with_reducible rfl)
                  (try simp only [Act.put, List.getElem_toArray, List.getElem_cons_succ, List.getElem_cons_zero, List.setIfInBounds_toArray, List.set_cons_zero, List.set_cons_succ])
                  refine wpAnyH_take (i := 4) (v := ?_) rfl (by kernel_rfl) (by kernel_rfl) (by kernel_rfl) (fun _ _ _ h => h) (Or.inl ⟨by rfl, ?_⟩) (by assumption) ?_; rotate_left; focus ((intro w hSw; (try dsimp only at hSw); go_simp); try with_reducible rfl)
                  (try simp only [Act.put, List.getElem_toArray, List.getElem_cons_succ, List.getElem_cons_zero, List.setIfInBounds_toArray, List.set_cons_zero, List.set_cons_succ])
                  refine wpAnyH_take (i := 5) (v := ?_) rfl (by kernel_rfl) (by kernel_rfl) (by kernel_rfl) (fun _ _ _ h => h) (Or.inl ⟨by rfl, ?_⟩) (by assumption) ?_; rotate_left; focus ((intro w hSw; (try dsimp only at hSw); go_simp); try with_reducible rfl)
                  (try simp only [Act.put, List.getElem_toArray, List.getElem_cons_succ, List.getElem_cons_zero, List.setIfInBounds_toArray, List.set_cons_zero, List.set_cons_succ])
                  refine wpAnyH_take (i := 6) (v := ?_) rfl (by kernel_rfl) (by kernel_rfl) (by kernel_rfl) (fun _ _ _ h => h) (Or.inl ⟨by rfl, ?_⟩) (by assumption) ?_; rotate_left; focus ((intro w hSw; (try dsimp only at hSw); go_simp); try with_reducible rfl)
                  (try simp only [Act.put, List.getElem_toArray, List.getElem_cons_succ, List.getElem_cons_zero, List.setIfInBounds_toArray, List.set_cons_zero, List.set_cons_succ])
                  refine wpAnyH_take (i := 7) (v := ?_) rfl (by kernel_rfl) (by kernel_rfl) (by kernel_rfl) (fun _ _ _ h => h) (Or.inl ⟨by rfl, ?_⟩) (by assumption) ?_; rotate_left; focus ((intro w hSw; (try dsimp only at hSw); go_simp); try with_reducible rfl)
                  (try simp only [Act.put, List.getElem_toArray, List.getElem_cons_succ, List.getElem_cons_zero, List.setIfInBounds_toArray, List.set_cons_zero, List.set_cons_succ])
                  refine wpAnyH_take (i := 8) (v := ?_) rfl (by kernel_rfl) (by kernel_rfl) (by kernel_rfl) (fun _ _ _ h => h) (Or.inl ⟨by rfl, ?_⟩) (by assumption) ?_; rotate_left; focus ((intro w hSw; (try dsimp only at hSw); go_simp); try with_reducible rfl)
                  (try simp only [Act.put, List.getElem_toArray, List.getElem_cons_succ, List.getElem_cons_zero, List.setIfInBounds_toArray, List.set_cons_zero, List.set_cons_succ])
                  refine wpAnyH_take (i := 9) (v := ?_) rfl (by kernel_rfl) (by kernel_rfl) (by kernel_rfl) (fun _ _ _ h => h) (Or.inl ⟨by rfl, ?_⟩) (by assumption) ?_; rotate_left; focus ((intro w hSw; (try dsimp only at hSw); go_simp); try with_reducible rfl)
                  (try simp only [Act.put, List.getElem_toArray, List.getElem_cons_succ, List.getElem_cons_zero, List.setIfInBounds_toArray, List.set_cons_zero, List.set_cons_succ])
                  refine wpAnyH_take (i := 10) (v := ?_) rfl (by kernel_rfl) (by kernel_rfl) (by kernel_rfl) (fun _ _ _ h => h) (Or.inl ⟨by rfl, ?_⟩) (by assumption) ?_; rotate_left; focus ((intro w hSw; (try dsimp only at hSw); go_simp); try with_reducible rfl)
                  (try simp only [Act.put, List.getElem_toArray, List.getElem_cons_succ, List.getElem_cons_zero, List.setIfInBounds_toArray, List.set_cons_zero, List.set_cons_succ])
                  refine wpAnyH_take (i := 11) (v := ?_) rfl (by kernel_rfl) (by kernel_rfl) (by kernel_rfl) (fun _ _ _ h => h) (Or.inl ⟨by rfl, ?_⟩) (by assumption) ?_; rotate_left; focus ((intro w hSw; (try dsimp only at hSw); go_simp); try with_reducible rfl)
                  (try simp only [Act.put, List.getElem_toArray, List.getElem_cons_succ, List.getElem_cons_zero, List.setIfInBounds_toArray, List.set_cons_zero, List.set_cons_succ])
                  refine wpAnyH_take (i := 12) (v := ?_) rfl (by kernel_rfl) (by kernel_rfl) (by kernel_rfl) (fun _ _ _ h => h) (Or.inl ⟨by rfl, ?_⟩) (by assumption) ?_; rotate_left; focus ((intro w hSw; (try dsimp only at hSw); go_simp); try with_reducible rfl)
                  (try simp only [Act.put, List.getElem_toArray, List.getElem_cons_succ, List.getElem_cons_zero, List.setIfInBounds_toArray, List.set_cons_zero, List.set_cons_succ])
                  refine wpAnyH_take (i := 13) (v := ?_) rfl (by kernel_rfl) (by kernel_rfl) (by kernel_rfl) (fun _ _ _ h => h) (Or.inl ⟨by rfl, ?_⟩) (by assumption) ?_; rotate_left; focus ((intro w hSw; (try dsimp only at hSw); go_simp); try with_reducible rfl)
                  (try simp only [Act.put, List.getElem_toArray, List.getElem_cons_succ, List.getElem_cons_zero, List.setIfInBounds_toArray, List.set_cons_zero, List.set_cons_succ])
                  refine wpAnyH_take (i := 14) (v := ?_) rfl (by kernel_rfl) (by kernel_rfl) (by kernel_rfl) (fun _ _ _ h => h) (Or.inl ⟨by rfl, ?_⟩) (by assumption) ?_; rotate_left; focus ((intro w hSw; (try dsimp only at hSw); go_simp); try with_reducible rfl)
                  (try simp only [Act.put, List.getElem_toArray, List.getElem_cons_succ, List.getElem_cons_zero, List.setIfInBounds_toArray, List.set_cons_zero, List.set_cons_succ])
                  refine wpAnyH_take (i := 15) (v := ?_) rfl (by kernel_rfl) (by kernel_rfl) (by kernel_rfl) (fun _ _ _ h => h) (Or.inl ⟨by rfl, ?_⟩) (by assumption) ?_; rotate_left; focus ((intro w hSw; (try dsimp only at hSw); go_simp); try with_reducible rfl)
                  (try simp only [Act.put, List.getElem_toArray, List.getElem_cons_succ, List.getElem_cons_zero, List.setIfInBounds_toArray, List.set_cons_zero, List.set_cons_succ])
                  refine wpAnyH_take (i := 16) (v := ?_) rfl (by kernel_rfl) (by kernel_rfl) (by kernel_rfl) (fun _ _ _ h => h) (Or.inl ⟨by rfl, ?_⟩) (by assumption) ?_; rotate_left; focus ((intro w hSw; (try dsimp only at hSw); go_simp); try with_reducible rfl)
                  (try simp only [Act.put, List.getElem_toArray, List.getElem_cons_succ, List.getElem_cons_zero, List.setIfInBounds_toArray, List.set_cons_zero, List.set_cons_succ])
                  refine wpAnyH_take (i := 17) (v := ?_) rfl (by kernel_rfl) (by kernel_rfl) (by kernel_rfl) (fun _ _ _ h => h) (Or.inl ⟨by rfl, ?_⟩) (by assumption) ?_; rotate_left; focus ((intro w hSw; (try dsimp only at hSw); go_simp); try with_reducible rfl)
                  (try simp only [Act.put, List.getElem_toArray, List.getElem_cons_succ, List.getElem_cons_zero, List.setIfInBounds_toArray, List.set_cons_zero, List.set_cons_succ])
                  refine wpAnyH_take (i := 18) (v := ?_) rfl (by kernel_rfl) (by kernel_rfl) (by kernel_rfl) (fun _ _ _ h => h) (Or.inl ⟨by rfl, ?_⟩) (by assumption) ?_; rotate_left; focus ((intro w hSw; (try dsimp only at hSw); go_simp); try with_reducible rfl)
                  (try simp only [Act.put, List.getElem_toArray, List.getElem_cons_succ, List.getElem_cons_zero, List.setIfInBounds_toArray, List.set_cons_zero, List.set_cons_succ])
                  refine wpAnyH_take (i := 19) (v := ?_) rfl (by kernel_rfl) (by kernel_rfl) (by kernel_rfl) (fun _ _ _ h => h) (Or.inl ⟨by rfl, ?_⟩) (by assumption) ?_; rotate_left; focus ((intro w hSw; (try dsimp only at hSw); go_simp); try with_reducible rfl)
                  (try simp only [Act.put, List.getElem_toArray, List.getElem_cons_succ, List.getElem_cons_zero, List.setIfInBounds_toArray, List.set_cons_zero, List.set_cons_succ])
                  refine wpAnyH_take (i := 20) (v := ?_) rfl (by kernel_rfl) (by kernel_rfl) (by kernel_rfl) (fun _ _ _ h => h) (Or.inl ⟨by rfl, ?_⟩) (by assumption) ?_; rotate_left; focus ((intro w hSw; (try dsimp only at hSw); go_simp); try with_reducible rfl)
                  (try simp only [Act.put, List.getElem_toArray, List.getElem_cons_succ, List.getElem_cons_zero, List.setIfInBounds_toArray, List.set_cons_zero, List.set_cons_succ])
                  refine wpAnyH_take (i := 21) (v := ?_) rfl (by kernel_rfl) (by kernel_rfl) (by kernel_rfl) (fun _ _ _ h => h) (Or.inl ⟨by rfl, ?_⟩) (by assumption) ?_; rotate_left; focus ((intro w hSw; (try dsimp only at hSw); go_simp); try with_reducible rfl)
                  (try simp only [Act.put, List.getElem_toArray, List.getElem_cons_succ, List.getElem_cons_zero, List.setIfInBounds_toArray, List.set_cons_zero, List.set_cons_succ])
                  refine wpAnyH_take (i := 22) (v := ?_) rfl (by kernel_rfl) (by kernel_rfl) (by kernel_rfl) (fun _ _ _ h => h) (Or.inl ⟨by rfl, ?_⟩) (by assumption) ?_; rotate_left; focus ((intro w hSw; (try dsimp only at hSw); go_simp); try with_reducible rfl)
                  (try simp only [Act.put, List.getElem_toArray, List.getElem_cons_succ, List.getElem_cons_zero, List.setIfInBounds_toArray, List.set_cons_zero, List.set_cons_succ])
                  refine wpAnyH_take (i := 23) (v := ?_) rfl (by kernel_rfl) (by kernel_rfl) (by kernel_rfl) (fun _ _ _ h => h) (Or.inl ⟨by rfl, ?_⟩) (by assumption) ?_; rotate_left; focus ((intro w hSw; (try dsimp only at hSw); go_simp); try with_reducible rfl)
                  (try simp only [Act.put, List.getElem_toArray, List.getElem_cons_succ, List.getElem_cons_zero, List.setIfInBounds_toArray, List.set_cons_zero, List.set_cons_succ])
                  refine wpAnyH_take (i := 24) (v := ?_) rfl (by kernel_rfl) (by kernel_rfl) (by kernel_rfl) (fun _ _ _ h => h) (Or.inl ⟨by rfl, ?_⟩) (by assumption) ?_; rotate_left; focus ((intro w hSw; (try dsimp only at hSw); go_simp); try with_reducible rfl)
                  (try simp only [Act.put, List.getElem_toArray, List.getElem_cons_succ, List.getElem_cons_zero, List.setIfInBounds_toArray, List.set_cons_zero, List.set_cons_succ])
                  refine wpAnyH_take (i := 25) (v := ?_) rfl (by kernel_rfl) (by kernel_rfl) (by kernel_rfl) (fun _ _ _ h => h) (Or.inl ⟨by rfl, ?_⟩) (by assumption) ?_; rotate_left; focus ((intro w hSw; (try dsimp only at hSw); go_simp); try with_reducible rfl)
                  (try simp only [Act.put, List.getElem_toArray, List.getElem_cons_succ, List.getElem_cons_zero, List.setIfInBounds_toArray, List.set_cons_zero, List.set_cons_succ])
                  refine wpAnyH_take (i := 26) (v := ?_) rfl (by kernel_rfl) (by kernel_rfl) (by kernel_rfl) (fun _ _ _ h => h) (Or.inl ⟨by rfl, ?_⟩) (by assumption) ?_; rotate_left; focus ((intro w hSw; (try dsimp only at hSw); go_simp); try with_reducible rfl)
                  (try simp only [Act.put, List.getElem_toArray, List.getElem_cons_succ, List.getElem_cons_zero, List.setIfInBounds_toArray, List.set_cons_zero, List.set_cons_succ])
                  refine wpAnyH_take (i := 27) (v := ?_) rfl (by kernel_rfl) (by kernel_rfl) (by kernel_rfl) (fun _ _ _ h => h) (Or.inl ⟨by rfl, ?_⟩) (by assumption) ?_; rotate_left; focus ((intro w hSw; (try dsimp only at hSw); go_simp); try with_reducible rfl)
                  (try simp only [Act.put, List.getElem_toArray, List.getElem_cons_succ, List.getElem_cons_zero, List.setIfInBounds_toArray, List.set_cons_zero, List.set_cons_succ])
                  refine wpAnyH_take (i := 28) (v := ?_) rfl (by kernel_rfl) (by kernel_rfl) (by kernel_rfl) (fun _ _ _ h => h) (Or.inl ⟨by rfl, ?_⟩) (by assumption) ?_; rotate_left; focus ((intro w hSw; (try dsimp only at hSw); go_simp); try with_reducible rfl)
                  (try simp only [Act.put, List.getElem_toArray, List.getElem_cons_succ, List.getElem_cons_zero, List.setIfInBounds_toArray, List.set_cons_zero, List.set_cons_succ])
                  refine wpAnyH_ready (rs := [29]) (by kernel_rfl) (by simp) ?_
                  refine AllReadyH.cons rfl (fun K hK => ?_) AllReadyH.nil
                  go_simp
                  refine hK.out _ _ ⟨cell_allocV k0 _, cell_allocV ja0 _, cell_allocV jb0 _, cell_allocV kT0 _, cell_allocV kT1 _, cell_allocV jNa _, cell_allocV jNb _⟩ (fun hHeld => ?_)
                  clear hK K
                  refine wpAnyH_ready (rs := [30]) (by kernel_rfl) (by simp) ?_
                  refine AllReadyH.cons rfl (fun K hK => ?_) AllReadyH.nil
                  refine step_app rfl (.tmp 110) (.tmp 135) _ rfl wo.heap.size 9 is1 _ 1 16 Tryz.underlying35 his1 hzs1 hzs2 hzs3 rfl (by omega) An nn cn (N.map encNm) rfl (hXd.hn.alloc _) _ 1 1 [encNm (xa ++ 95 :: xb)] rfl rfl (Rd.newAt (by simp) (by simp [encNm, cat_nmV])) (encNm_ok [xa ++ 95 :: xb]) (by unfold maxLen; omega) (by omega) (by simp; omega) ?_
                  intro A3 c3 w9 ho9 hg9 hA9
                  have HN9 := hXd.named (n := xa ++ 95 :: xb) (by rw [List.map_append]; exact ho9) hg9 hA9 hxw hszs
                  have k90 := HN9.1.cell 0
                  have f90 := HN9.1.frozen 0
                  simp only [List.getElem?_toArray, List.getElem?_cons_zero] at k90
                  refine hK.out _ _ ⟨k90, HK9.out _ _ hg9 _ _ mP ja0, HK9.out _ _ hg9 _ _ mQ jb0, HK9.out _ _ hg9 _ _ mT kT0, HK9.out _ _ hg9 _ _ mT kT1, HK9.out _ _ hg9 _ _ mNa jNa, HK9.out _ _ hg9 _ _ mNb jNb⟩ (fun hHeld => ?_)
                  clear hK K
                  (try simp only [Act.put, List.getElem_toArray, List.getElem_cons_succ, List.getElem_cons_zero, List.setIfInBounds_toArray, List.set_cons_zero, List.set_cons_succ])
                  refine wpAnyH_take (i := 31) (v := ?_) rfl (by kernel_rfl) (by kernel_rfl) (by kernel_rfl) (fun _ _ _ h => h) (Or.inl ⟨by rfl, ?_⟩) (by assumption) ?_; rotate_left; focus ((intro w hSw; (try dsimp only at hSw); go_simp); try with_reducible rfl)
                  (try simp only [Act.put, List.getElem_toArray, List.getElem_cons_succ, List.getElem_cons_zero, List.setIfInBounds_toArray, List.set_cons_zero, List.set_cons_succ])
                  refine wpAnyH_take (i := 32) (v := ?_) rfl (by kernel_rfl) (by kernel_rfl) (by kernel_rfl) (fun _ _ _ h => h) (Or.inl ⟨by rfl, ?_⟩) (by assumption) ?_; rotate_left; focus ((intro w hSw; (try dsimp only at hSw); go_simp); try with_reducible rfl)
                  (try simp only [Act.put, List.getElem_toArray, List.getElem_cons_succ, List.getElem_cons_zero, List.setIfInBounds_toArray, List.set_cons_zero, List.set_cons_succ])
                  refine wpAnyH_done (by kernel_rfl) ?_ _
                  refine tailQ_end (wpOp_step (i := 33) rfl (fun K hK => ?_))
                  go_simp
                  refine hK _ _ ?_
                  obtain ⟨_, hXt, hKt, _⟩ := HN9
                  have hbt : Below wo.heap.size wo (w9.setCell ⟨P, 0, none⟩ (.slice A3 (nn + 1) c3)) := (hbs.trans (((Below.refl _ _).drew).mono hszs)).trans hKt.1
                  clear hK K k90 f90 hg9 hA9 ho9 hHeld hKt hXd k0 jNa jNb ja0 jb0 kT0 kT1 HK9 hXar hXbr hq1 hq2
                  generalize w9.setCell ⟨P, 0, none⟩ (.slice A3 (nn + 1) c3) = wt at hXt hbt ⊢
                  have hszt := hbt.size
                  have hx1 : 0 < wt.heap.size := by omega
                  have k2 := hXt.blk.cell 1
                  simp only [List.getElem?_toArray, List.getElem?_cons_zero, List.getElem?_cons_succ] at k2
                  have ja1 := cell_keep ra1 hbt
                  have jb1 := cell_keep rb1 hbt
                  have jSa := cell_keep rSa hbt
                  have jSb := cell_keep rSb hbt
                  have ⟨kT0, kT1⟩ := (hoT.below hbt).cell2 Hti.out
                  simp only at kT0 kT1
                  have HAnd := Lib.hid (sAnd_any ya.1 yb.1 ya.2.1 ya.2.2 yb.2.1 yb.2.2 sa sb wt.drew (((hoa.below hbt).rd (by omega)).drew) (((hob.below hbt).rd (by omega)).drew) HPa.out.1 HPa.out.2 (by omega) (by omega))
                  go_wp2_with fail
                  refine wp_region_last (S := fun V => V.cell? ⟨P, 1, none⟩ = some (.slice As ns cs) ∧ V.cell? ⟨p, 1, none⟩ = some (.slice (some ⟨gSa, 0, none⟩) _ csa) ∧ V.cell? ⟨q, 1, none⟩ = some (.slice (some ⟨gSb, 0, none⟩) _ csb) ∧ V.cell? ⟨g1, j * 2, none⟩ = some (.int .i64 (pa : Nat)) ∧ V.cell? ⟨g1, j * 2 + 1, none⟩ = some (.int .i64 (pb : Nat)) ∧ V.cell? ⟨gSa, pa, none⟩ = some (.slice ya.1 ya.2.1 ya.2.2) ∧ V.cell? ⟨gSb, pb, none⟩ = some (.slice yb.1 yb.2.1 yb.2.2)) 32 rfl (by kernel_rfl) (by kernel_rfl) (by kernel_rfl) ⟨k2, ja1, jb1, kT0, kT1, jSa, jSb⟩ (fun hHeld => ?_)
                  simp only [List.dropLast_cons_cons, List.dropLast_singleton]
                  refine wpAnyH_take (i := 0) (v := ?_) rfl (by kernel_rfl) (by kernel_rfl) (by kernel_rfl) (fun _ _ _ h => h) (Or.inl ⟨by rfl, ?_⟩) (by assumption) ?_; rotate_left; focus ((intro w hSw; (try dsimp only at hSw); go_simp); try with_reducible rfl)
                  (try simp only [Act.put, List.getElem_toArray, List.getElem_cons_zero, List.setIfInBounds_toArray, List.set_cons_zero, List.set_cons_succ])
                  refine wpAnyH_take (i := 1) (v := ?_) rfl (by kernel_rfl) (by kernel_rfl) (by kernel_rfl) (fun _ _ _ h => h) (Or.inl ⟨by rfl, ?_⟩) (by assumption) ?_; rotate_left; focus ((intro w hSw; (try dsimp only at hSw); go_simp); try with_reducible rfl)
                  (try simp only [Act.put, List.getElem_toArray, List.getElem_cons_succ, List.getElem_cons_zero, List.setIfInBounds_toArray, List.set_cons_zero, List.set_cons_succ])
                  refine wpAnyH_take (i := 2) (v := ?_) rfl (by kernel_rfl) (by kernel_rfl) (by kernel_rfl) (fun _ _ _ h => h) (Or.inl ⟨by rfl, ?_⟩) (by assumption) ?_; rotate_left; focus ((intro w hSw; (try dsimp only at hSw); go_simp); try with_reducible rfl)
                  (try simp only [Act.put, List.getElem_toArray, List.getElem_cons_succ, List.getElem_cons_zero, List.setIfInBounds_toArray, List.set_cons_zero, List.set_cons_succ])
                  refine wpAnyH_take (i := 3) (v := ?_) rfl (by kernel_rfl) (by kernel_rfl) (by kernel_rfl) (fun _ _ _ h => h) (Or.inl ⟨by rfl, ?_⟩) (by assumption) ?_; rotate_left; focus ((intro w hSw; (try dsimp only at hSw); go_simp); try with_reducible rfl)
                  (try simp only [Act.put, List.getElem_toArray, List.getElem_cons_succ, List.getElem_cons_zero, List.setIfInBounds_toArray, List.set_cons_zero, List.set_cons_succ])
                  refine wpAnyH_take (i := 4) (v := ?_) rfl (by kernel_rfl) (by kernel_rfl) (by kernel_rfl) (fun _ _ _ h => h) (Or.inl ⟨by rfl, ?_⟩) (by assumption) ?_; rotate_left; focus ((intro w hSw; (try dsimp only at hSw); go_simp); try with_reducible rfl)
                  (try simp only [Act.put, List.getElem_toArray, List.getElem_cons_succ, List.getElem_cons_zero, List.setIfInBounds_toArray, List.set_cons_zero, List.set_cons_succ])
                  refine wpAnyH_take (i := 5) (v := ?_) rfl (by kernel_rfl) (by kernel_rfl) (by kernel_rfl) (fun _ _ _ h => h) (Or.inl ⟨by rfl, ?_⟩) (by assumption) ?_; rotate_left; focus ((intro w hSw; (try dsimp only at hSw); go_simp); try with_reducible rfl)
                  (try simp only [Act.put, List.getElem_toArray, List.getElem_cons_succ, List.getElem_cons_zero, List.setIfInBounds_toArray, List.set_cons_zero, List.set_cons_succ])
                  refine wpAnyH_take (i := 6) (v := ?_) rfl (by kernel_rfl) (by kernel_rfl) (by kernel_rfl) (fun _ _ _ h => h) (Or.inl ⟨by rfl, ?_⟩) (by assumption) ?_; rotate_left; focus ((intro w hSw; (try dsimp only at hSw); go_simp); try with_reducible rfl)
                  (try simp only [Act.put, List.getElem_toArray, List.getElem_cons_succ, List.getElem_cons_zero, List.setIfInBounds_toArray, List.set_cons_zero, List.set_cons_succ])
                  refine wpAnyH_take (i := 7) (v := ?_) rfl (by kernel_rfl) (by kernel_rfl) (by kernel_rfl) (fun _ _ _ h => h) (Or.inl ⟨by rfl, ?_⟩) (by assumption) ?_; rotate_left; focus ((intro w hSw; (try dsimp only at hSw); go_simp); try with_reducible rfl)
                  (try simp only [Act.put, List.getElem_toArray, List.getElem_cons_succ, List.getElem_cons_zero, List.setIfInBounds_toArray, List.set_cons_zero, List.set_cons_succ])
                  refine wpAnyH_take (i := 8) (v := ?_) rfl (by kernel_rfl) (by kernel_rfl) (by kernel_rfl) (fun _ _ _ h => h) (Or.inl ⟨by rfl, ?_⟩) (by assumption) ?_; rotate_left; focus ((intro w hSw; (try dsimp only at hSw); go_simp); try with_reducible rfl)
                  (try simp only [Act.put, List.getElem_toArray, List.getElem_cons_succ, List.getElem_cons_zero, List.setIfInBounds_toArray, List.set_cons_zero, List.set_cons_succ])
                  refine wpAnyH_take (i := 9) (v := ?_) rfl (by kernel_rfl) (by kernel_rfl) (by kernel_rfl) (fun _ _ _ h => h) (Or.inl ⟨by rfl, ?_⟩) (by assumption) ?_; rotate_left; focus ((intro w hSw; (try dsimp only at hSw); go_simp); try with_reducible rfl)
                  (try simp only [Act.put, List.getElem_toArray, List.getElem_cons_succ, List.getElem_cons_zero, List.setIfInBounds_toArray, List.set_cons_zero, List.set_cons_succ])
                  refine wpAnyH_take (i := 10) (v := ?_) rfl (by kernel_rfl) (by kernel_rfl) (by kernel_rfl) (fun _ _ _ h => h) (Or.inl ⟨by rfl, ?_⟩) (by assumption) ?_; rotate_left; focus ((intro w hSw; (try dsimp only at hSw); go_simp); try with_reducible rfl)
                  (try simp only [Act.put, List.getElem_toArray, List.getElem_cons_succ, List.getElem_cons_zero, List.setIfInBounds_toArray, List.set_cons_zero, List.set_cons_succ])
                  refine wpAnyH_take (i := 11) (v := ?_) rfl (by kernel_rfl) (by kernel_rfl) (by kernel_rfl) (fun _ _ _ h => h) (Or.inl ⟨by rfl, ?_⟩) (by assumption) ?_; rotate_left; focus ((intro w hSw; (try dsimp only at hSw); go_simp); try with_reducible rfl)
                  (try simp only [Act.put, List.getElem_toArray, List.getElem_cons_succ, List.getElem_cons_zero, List.setIfInBounds_toArray, List.set_cons_zero, List.set_cons_succ])
                  refine wpAnyH_take (i := 12) (v := ?_) rfl (by kernel_rfl) (by kernel_rfl) (by kernel_rfl) (fun _ _ _ h => h) (Or.inl ⟨by rfl, ?_⟩) (by assumption) ?_; rotate_left; focus ((intro w hSw; (try dsimp only at hSw); go_simp); try with_reducible rfl)
                  (try simp only [Act.put, List.getElem_toArray, List.getElem_cons_succ, List.getElem_cons_zero, List.setIfInBounds_toArray, List.set_cons_zero, List.set_cons_succ])
                  refine wpAnyH_take (i := 13) (v := ?_) rfl (by kernel_rfl) (by kernel_rfl) (by kernel_rfl) (fun _ _ _ h => h) (Or.inl ⟨by rfl, ?_⟩) (by assumption) ?_; rotate_left; focus ((intro w hSw; (try dsimp only at hSw); go_simp); try with_reducible rfl)
                  (try simp only [Act.put, List.getElem_toArray, List.getElem_cons_succ, List.getElem_cons_zero, List.setIfInBounds_toArray, List.set_cons_zero, List.set_cons_succ])
                  refine wpAnyH_take (i := 14) (v := ?_) rfl (by kernel_rfl) (by kernel_rfl) (by kernel_rfl) (fun _ _ _ h => h) (Or.inl ⟨by rfl, ?_⟩) (by assumption) ?_; rotate_left; focus ((intro w hSw; (try dsimp only at hSw); go_simp); try with_reducible rfl)
                  (try simp only [Act.put, List.getElem_toArray, List.getElem_cons_succ, List.getElem_cons_zero, List.setIfInBounds_toArray, List.set_cons_zero, List.set_cons_succ])
                  refine wpAnyH_take (i := 15) (v := ?_) rfl (by kernel_rfl) (by kernel_rfl) (by kernel_rfl) (fun _ _ _ h => h) (Or.inl ⟨by rfl, ?_⟩) (by assumption) ?_; rotate_left; focus ((intro w hSw; (try dsimp only at hSw); go_simp); try with_reducible rfl)
                  (try simp only [Act.put, List.getElem_toArray, List.getElem_cons_succ, List.getElem_cons_zero, List.setIfInBounds_toArray, List.set_cons_zero, List.set_cons_succ])
                  refine wpAnyH_take (i := 16) (v := ?_) rfl (by kernel_rfl) (by kernel_rfl) (by kernel_rfl) (fun _ _ _ h => h) (Or.inl ⟨by rfl, ?_⟩) (by assumption) ?_; rotate_left; focus ((intro w hSw; (try dsimp only at hSw); go_simp); try with_reducible rfl)
                  (try simp only [Act.put, List.getElem_toArray, List.getElem_cons_succ, List.getElem_cons_zero, List.setIfInBounds_toArray, List.set_cons_zero, List.set_cons_succ])
                  refine wpAnyH_take (i := 17) (v := ?_) rfl (by kernel_rfl) (by kernel_rfl) (by kernel_rfl) (fun _ _ _ h => h) (Or.inl ⟨by rfl, ?_⟩) (by assumption) ?_; rotate_left; focus ((intro w hSw; (try dsimp only at hSw); go_simp); try with_reducible rfl)
                  (try simp only [Act.put, List.getElem_toArray, List.getElem_cons_succ, List.getElem_cons_zero, List.setIfInBounds_toArray, List.set_cons_zero, List.set_cons_succ])
                  refine wpAnyH_take (i := 18) (v := ?_) rfl (by kernel_rfl) (by kernel_rfl) (by kernel_rfl) (fun _ _ _ h => h) (Or.inl ⟨by rfl, ?_⟩) (by assumption) ?_; rotate_left; focus ((intro w hSw; (try dsimp only at hSw); go_simp); try with_reducible rfl)
                  (try simp only [Act.put, List.getElem_toArray, List.getElem_cons_succ, List.getElem_cons_zero, List.setIfInBounds_toArray, List.set_cons_zero, List.set_cons_succ])
                  refine wpAnyH_take (i := 19) (v := ?_) rfl (by kernel_rfl) (by kernel_rfl) (by kernel_rfl) (fun _ _ _ h => h) (Or.inl ⟨by rfl, ?_⟩) (by assumption) ?_; rotate_left; focus ((intro w hSw; (try dsimp only at hSw); go_simp); try with_reducible rfl)
                  (try simp only [Act.put, List.getElem_toArray, List.getElem_cons_succ, List.getElem_cons_zero, List.setIfInBounds_toArray, List.set_cons_zero, List.set_cons_succ])
                  refine wpAnyH_take (i := 20) (v := ?_) rfl (by kernel_rfl) (by kernel_rfl) (by kernel_rfl) (fun _ _ _ h => h) (Or.inl ⟨by rfl, ?_⟩) (by assumption) ?_; rotate_left; focus ((intro w hSw; (try dsimp only at hSw); go_simp); try with_reducible rfl)
                  (try simp only [Act.put, List.getElem_toArray, List.getElem_cons_succ, List.getElem_cons_zero, List.setIfInBounds_toArray, List.set_cons_zero, List.set_cons_succ])
                  refine wpAnyH_take (i := 21) (v := ?_) rfl (by kernel_rfl) (by kernel_rfl) (by kernel_rfl) (fun _ _ _ h => h) (Or.inl ⟨by rfl, ?_⟩) (by assumption) ?_; rotate_left; focus ((intro w hSw; (try dsimp only at hSw); go_simp); try with_reducible rfl)
                  (try simp only [Act.put, List.getElem_toArray, List.getElem_cons_succ, List.getElem_cons_zero, List.setIfInBounds_toArray, List.set_cons_zero, List.set_cons_succ])
                  refine wpAnyH_take (i := 22) (v := ?_) rfl (by kernel_rfl) (by kernel_rfl) (by kernel_rfl) (fun _ _ _ h => h) (Or.inl ⟨by rfl, ?_⟩) (by assumption) ?_; rotate_left; focus ((intro w hSw; (try dsimp only at hSw); go_simp); try with_reducible rfl)
                  (try simp only [Act.put, List.getElem_toArray, List.getElem_cons_succ, List.getElem_cons_zero, List.setIfInBounds_toArray, List.set_cons_zero, List.set_cons_succ])
                  refine wpAnyH_take (i := 23) (v := ?_) rfl (by kernel_rfl) (by kernel_rfl) (by kernel_rfl) (fun _ _ _ h => h) (Or.inl ⟨by rfl, ?_⟩) (by assumption) ?_; rotate_left; focus ((intro w hSw; (try dsimp only at hSw); go_simp); try with_reducible rfl)
                  (try simp only [Act.put, List.getElem_toArray, List.getElem_cons_succ, List.getElem_cons_zero, List.setIfInBounds_toArray, List.set_cons_zero, List.set_cons_succ])
                  refine wpAnyH_take (i := 24) (v := ?_) rfl (by kernel_rfl) (by kernel_rfl) (by kernel_rfl) (fun _ _ _ h => h) (Or.inl ⟨by rfl, ?_⟩) (by assumption) ?_; rotate_left; focus ((intro w hSw; (try dsimp only at hSw); go_simp); try with_reducible rfl)
                  (try simp only [Act.put, List.getElem_toArray, List.getElem_cons_succ, List.getElem_cons_zero, List.setIfInBounds_toArray, List.set_cons_zero, List.set_cons_succ])
                  refine wpAnyH_take (i := 25) (v := ?_) rfl (by kernel_rfl) (by kernel_rfl) (by kernel_rfl) (fun _ _ _ h => h) (Or.inl ⟨by rfl, ?_⟩) (by assumption) ?_; rotate_left; focus ((intro w hSw; (try dsimp only at hSw); go_simp); try with_reducible rfl)
                  (try simp only [Act.put, List.getElem_toArray, List.getElem_cons_succ, List.getElem_cons_zero, List.setIfInBounds_toArray, List.set_cons_zero, List.set_cons_succ])
                  refine wpAnyH_take (i := 26) (v := ?_) rfl (by kernel_rfl) (by kernel_rfl) (by kernel_rfl) (fun _ _ _ h => h) (Or.inl ⟨by rfl, ?_⟩) (by assumption) ?_; rotate_left; focus ((intro w hSw; (try dsimp only at hSw); go_simp); try with_reducible rfl)
                  (try simp only [Act.put, List.getElem_toArray, List.getElem_cons_succ, List.getElem_cons_zero, List.setIfInBounds_toArray, List.set_cons_zero, List.set_cons_succ])
                  refine wpAnyH_ready (rs := [27]) (by kernel_rfl) (by simp) ?_
                  refine AllReadyH.cons rfl (fun K hK => ?_) AllReadyH.nil
                  go_simp
                  refine HAnd.out.mono ?_
                  rintro e wz ⟨A', n', c', rfl, ho', hb'⟩
                  have hXz := (hXt.below (w' := wt.drew) ((Below.refl _ _).drew)).below hb'
                  have hszz : wt.heap.size ≤ wz.heap.size := hb'.size
                  have z2 := cell_keep (w := wt.drew) k2 hb'
                  have za1 := cell_keep (w := wt.drew) ja1 hb'
                  have zb1 := cell_keep (w := wt.drew) jb1 hb'
                  have zT0 := cell_keep (w := wt.drew) kT0 hb'
                  have zT1 := cell_keep (w := wt.drew) kT1 hb'
                  have zSa := cell_keep (w := wt.drew) jSa hb'
                  have zSb := cell_keep (w := wt.drew) jSb hb'
                  have mSa := cell_lt rSa
                  have mSb := cell_lt rSb
                  simp only at mSa mSb
                  refine hK.out _ _ ⟨z2, za1, zb1, zT0, zT1, zSa, zSb⟩ (fun hHeld => ?_)
                  clear hK K
                  (try simp only [Act.put, List.getElem_toArray, List.getElem_cons_succ, List.getElem_cons_zero, List.setIfInBounds_toArray, List.set_cons_zero, List.set_cons_succ])
                  refine wpAnyH_ready (rs := [28]) (by kernel_rfl) (by simp) ?_
                  refine AllReadyH.cons rfl (fun K hK => ?_) AllReadyH.nil
                  go_simp
                  refine hK.out _ _ ⟨cell_allocV z2 _, cell_allocV za1 _, cell_allocV zb1 _, cell_allocV zT0 _, cell_allocV zT1 _, cell_allocV zSa _, cell_allocV zSb _⟩ (fun hHeld => ?_)
                  clear hK K
                  (try simp only [Act.put, List.getElem_toArray, List.getElem_cons_succ, List.getElem_cons_zero, List.setIfInBounds_toArray, List.set_cons_zero, List.set_cons_succ])
                  refine wpAnyH_ready (rs := [29]) (by kernel_rfl) (by simp) ?_
                  refine AllReadyH.cons rfl (fun K hK => ?_) AllReadyH.nil
                  refine step_app rfl (.tmp 143) (.tmp 167) _ rfl wo.heap.size 37 iz1 _ 1 24 Tryz.underlying68 hiz1 hzz1 hzz2 hzz3 rfl (by omega) As ns cs (xs.map encSl) rfl (hXz.hs.alloc _) _ 1 1 [encSl (A', n', c')] rfl rfl (Rd.newAt (by simp) rfl) (encSl_ok [(A', n', c')]) (by unfold maxLen; omega) (by omega) (by simp; omega) ?_
                  intro A6 c6 w11 ho11 hg11 hA11
                  have HM := hXz.moreSetL (y := (A', n', c')) ho' hszt (by rw [List.map_append]; exact ho11) hg11 hA11 (by omega) (by omega)
                  have k110 := HM.1.cell 1
                  have f110 := HM.1.frozen 1
                  simp only [List.getElem?_toArray, List.getElem?_cons_zero, List.getElem?_cons_succ] at k110
                  have hwz : wo.heap.size ≤ wz.heap.size := by omega
                  refine hK.out _ _ ⟨k110, low_app hXz.hs hwz hg11 mP za1, low_app hXz.hs hwz hg11 mQ zb1, low_app hXz.hs hwz hg11 mT zT0, low_app hXz.hs hwz hg11 mT zT1, low_app hXz.hs hwz hg11 mSa zSa, low_app hXz.hs hwz hg11 mSb zSb⟩ (fun hHeld => ?_)
                  clear hK K
                  (try simp only [Act.put, List.getElem_toArray, List.getElem_cons_succ, List.getElem_cons_zero, List.setIfInBounds_toArray, List.set_cons_zero, List.set_cons_succ])
                  refine wpAnyH_take (i := 30) (v := ?_) rfl (by kernel_rfl) (by kernel_rfl) (by kernel_rfl) (fun _ _ _ h => h) (Or.inl ⟨by rfl, ?_⟩) (by assumption) ?_; rotate_left; focus ((intro w hSw; (try dsimp only at hSw); go_simp); try with_reducible rfl)
                  (try simp only [Act.put, List.getElem_toArray, List.getElem_cons_succ, List.getElem_cons_zero, List.setIfInBounds_toArray, List.set_cons_zero, List.set_cons_succ])
                  refine wpAnyH_take (i := 31) (v := ?_) rfl (by kernel_rfl) (by kernel_rfl) (by kernel_rfl) (fun _ _ _ h => h) (Or.inl ⟨by rfl, ?_⟩) (by assumption) ?_; rotate_left; focus ((intro w hSw; (try dsimp only at hSw); go_simp); try with_reducible rfl)
                  (try simp only [Act.put, List.getElem_toArray, List.getElem_cons_succ, List.getElem_cons_zero, List.setIfInBounds_toArray, List.set_cons_zero, List.set_cons_succ])
                  refine wpAnyH_done (by kernel_rfl) ?_ _
                  refine tailQ_end (wpOp_step (i := 32) rfl (fun K hK => ?_))
                  go_simp
                  refine hK _ _ ?_
                  clear hK K
                  have hXn := HM.2.1
                  have hbn : Below wo.heap.size wo (w11.setCell ⟨P, 1, none⟩ (.slice A6 (ns + 1) c6)) := ((hbt.trans (((Below.refl _ _).drew).mono hszt)).trans (hb'.mono hszt)).trans HM.2.2.1
                  go_wp2
                  go_roundw
                  case rel => exact ⟨j + 1, N ++ [xa ++ 95 :: xb], S ++ [andR sa sb], by go_num, by omega, by omega, HN2, HS2, ⟨_, _, _, _, _, _, _, hXn⟩, hbn⟩
                  case measure => simp [intOf]; omega
                · obtain rfl : j = n1 := by omega
                  have HNe : Hid (N = crossN a b Ti) := Lib.hid (by rw [HN.out, List.take_of_length_le (by have := HNl.out.1; have := HTl.out; omega)])
                  have HSe : Hid (S = crossS a b Ti) := Lib.hid (by rw [HS.out, List.take_of_length_le (by have := HNl.out.2; have := HTl.out; omega)])
                  have hbr := hb.trans (hbs.mono hszr)
                  have HTl' := HTl.out
                  obtain ⟨An, nn, cn, As, ns, cs, xs, hX⟩ := hd.ex
                  have hnn : nn = j := by have h1 := hX.lenN; rw [HNe.out, HNl.out.1, HTl'] at h1; exact h1.symm
                  subst hnn
                  have k0 := hX.blk.cell 0
                  simp only [List.getElem?_toArray, List.getElem?_cons_zero] at k0
                  obtain ⟨gN, eN, _, _⟩ := hX.hn.form h0
                  subst eN
                  have HCell := Lib.hid (fun (k : Nat) (n : List UInt8) (hn : N[k]? = some n) => show wr.cell? ⟨gN, k, none⟩ = some (.string (bytesOf n)) from by
                    have := hX.hn.cell (k := k) (j := 0) (x := encNm n) (u := .string (bytesOf n)) (by rw [List.getElem?_map, hn]; rfl) rfl
                    simpa using this)
                  have HTl2 := Lib.hid HTl'
                  clear hX HTl' hlt
                  go_wp2_with fail
                  go_loop [14] (fun v => ∃ k : Nat, v = .int .i64 k ∧ 1 ≤ k ∧ k ≤ nn ∧ Hid (LongAt a b Ti (k - 1))) (fun v => nn - (intOf v).toNat)
                  case atStart => exact ⟨1, rfl, by omega, by omega, Lib.hid (long_at0 a b Ti)⟩
                  case round =>
                    obtain ⟨k, rfl, hk1, hkn, HLg⟩ := hrel
                    by_cases hlt : k < nn
                    · obtain ⟨t, ht⟩ : ∃ t, Ti[k]? = some t := ⟨_, List.getElem?_eq_getElem (show k < Ti.length by have := HTl2.out; omega)⟩
                      have hti : Ti[k - 1 + 1]? = some t := by rw [show k - 1 + 1 = k by omega]; exact ht
                      have hnk : N[k]? = some (nmP a b t) := by have := crossN_at (a := a) (b := b) hti; rw [show k - 1 + 1 = k by omega] at this; rw [HNe.out]; exact this
                      have hc := HCell.out k _ hnk
                      have Hti := Lib.hid hti
                      clear ht hti hnk
                      by_cases hl : 32 < (nmP a b t).length
                      · have hE : Hid (R = .error 40) := Lib.hid (by rw [HC.out]; exact crossT_long (by rw [HTl2.out]; exact hmany) (two_mem Hti.out) hl)
                        have hsz : (bytesOf (nmP a b t)).size = (nmP a b t).length := bytesOf_size _
                        have d2 : decide (32 < (nmP a b t).length) = true := decide_eq_true hl
                        generalize nmP a b t = nm at hc hsz d2 hl
                        go_wp2
                        go_ret2
                        exact ⟨CrEndV.err hE.out, hbr⟩
                      · have hE : Hid (LongAt a b Ti (k - 1 + 1)) := Lib.hid (long_next HLg.out Hti.out hl)
                        have hsz : (bytesOf (nmP a b t)).size = (nmP a b t).length := bytesOf_size _
                        have d2 : decide (32 < (nmP a b t).length) = false := decide_eq_false hl
                        generalize nmP a b t = nm at hc hsz d2 hl
                        go_wp2
                        go_round
                        case rel => exact ⟨k + 1, by go_num, by omega, by omega, Lib.hid (by have := hE.out; rwa [show k - 1 + 1 = k + 1 - 1 by omega] at this)⟩
                        case measure => simp [intOf]; omega
                    · obtain rfl : k = nn := by omega
                      have HSh := Lib.hid (long_end HLg.out (by rw [HTl2.out]; omega))
                      clear HLg hlt
                      go_wp2_with fail
                      have HCl := Lib.hid (fun n => vClass_any wo.heap.size P 0 N S n wr hd (by rw [HNe.out, HNl.out.1, HTl2.out]; omega))
                      rw [HNe.out] at HCl
                      go_loop [15] (fun v => ∃ m : Nat, v = .int .i64 m ∧ 1 ≤ m ∧ m ≤ k ∧ Hid (OnceAt a b Ti (m - 1))) (fun v => k - (intOf v).toNat)
                      case atStart => exact ⟨1, rfl, by omega, by omega, Lib.hid (once_at0 a b Ti)⟩
                      case round =>
                        obtain ⟨m, rfl, hm1, hmn, HOn⟩ := hrel
                        by_cases hlt : m < k
                        · obtain ⟨t, ht⟩ : ∃ t, Ti[m]? = some t := ⟨_, List.getElem?_eq_getElem (show m < Ti.length by have := HTl2.out; omega)⟩
                          have hti : Ti[m - 1 + 1]? = some t := by rw [show m - 1 + 1 = m by omega]; exact ht
                          have hnk' := crossN_at (a := a) (b := b) hti
                          have hnk : N[m]? = some (nmP a b t) := by have := hnk'; rw [show m - 1 + 1 = m by omega] at this; rw [HNe.out]; exact this
                          have hc := HCell.out m _ hnk
                          have Hn := Lib.hid hnk'
                          have HCm := Lib.hid (HCl.out (nmP a b t))
                          obtain ⟨z, hz⟩ : ∃ z, ((crossN a b Ti).idxOf? (nmP a b t)).getD 0 = z := ⟨_, rfl⟩
                          rw [hz] at HCm
                          have Hz := Lib.hid hz
                          generalize ((crossN a b Ti).idxOf? (nmP a b t)).isSome = fl at HCm
                          generalize nmP a b t = nm at hc HCm Hn Hz
                          clear ht hti hnk hnk' hz
                          by_cases hzm : z = m
                          · have hE : Hid (OnceAt a b Ti (m - 1 + 1)) := Lib.hid (once_next HOn.out Hn.out (by rw [Hz.out]; omega))
                            have hne : ((z : Int) != (m : Int)) = false := by rw [hzm]; simp
                            clear hzm
                            go_wp2_with (go_at_call 64; refine HCm.out.mono ?_; rintro e w' ⟨rfl, rfl⟩)
                            go_round
                            case rel => exact ⟨m + 1, by go_num, by omega, by omega, Lib.hid (by have := hE.out; rwa [show m - 1 + 1 = m + 1 - 1 by omega] at this)⟩
                            case measure => simp [intOf]; omega
                          · have hE : Hid (R = .error 8) := Lib.hid (by rw [HC.out]; exact crossT_twice (by rw [HTl2.out]; exact hmany) HSh.out (once_not Hn.out (by rw [Hz.out]; omega)))
                            have hne : ((z : Int) != (m : Int)) = true := by rw [bne_iff_ne]; omega
                            clear hzm
                            go_wp2_with (go_at_call 64; refine HCm.out.mono ?_; rintro e w' ⟨rfl, rfl⟩)
                            go_ret2
                            exact ⟨CrEndV.err hE.out, hbr⟩
                        · obtain rfl : m = k := by omega
                          have hE : Hid (R = .ok ⟨N, S⟩) := Lib.hid (by
                            have h1 := crossT_fine (a := a) (b := b) (T := Ti) (by rw [HTl2.out]; exact hmany) HSh.out (once_end HOn.out (by rw [HTl2.out]; omega) (by rw [HTl2.out]; omega))
                            rw [HC.out, h1, HNe.out, HSe.out])
                          have HR := Lib.hid (vrest_any P wo.heap.size 0 ⟨N, S⟩ wr hd (HOK.out _ hE.out).1 (HOK.out _ hE.out).2 hszs)
                          clear hlt HOn
                          go_wp2_with (go_at_call 41; refine HR.out.mono ?_; rintro e w5 ⟨rfl, hda, hb5⟩)
                          go_ret2
                          exact ⟨CrEndV.fine hE.out (hda.more hszr), hbr.trans (hb5.mono hszr)⟩
theorem vCross_any (p q x1 x2 ba bb : Nat) (a b : DbP) (w : World) (hp : RfB w ba p x1 a.names a.full) (hq : RfB w bb q x2 b.names b.full) (oa : a.Ok) (aa : Apart a.sets) (ob : b.Ok) (ab : Apart b.sets) (na : a.Named) (nb : b.Named) :
    Calls Tryz.prog 32 #[.pointer (some ⟨p, 0, none⟩), .pointer (some ⟨q, 0, none⟩)] w fun e w' => CrEndV (crossP a b) w.heap.size e w' ∧ Below w.heap.size w w' :=
  vCross_core p q x1 x2 ba bb a b w hp hq oa aa ob ab na nb (twoP a b) (crossP a b) (Lib.hid (crossP_eq rfl)) (two_pos a b rfl) (Lib.hid fun _ ht => two_lt oa ob ht) (Lib.hid fun _ hd => ⟨cross_ok (crossP_is hd), cross_apart oa aa ob ab (crossP_is hd)⟩)
    (Lib.hid fun _ h1 h2 => begs_two oa aa ob ab h1 h2)
end Go.Proofs.YtejccafolfeabaaGreatDoor

/-
  kerflaw04.PropsCross, walked.
-/
namespace Go.Proofs.YtejccafolfeabaaGreatDoor
open Go.RowKit Go.Maps

set_option maxRecDepth 100000 in
theorem wCross_no (pa pb : Option Addr) (w : World) (h : pa = none ∨ (∃ p, pa = some p) ∧ pb = none) : Calls Tryz.prog 31 #[.pointer pa, .pointer pb] w fun e w' => e = .returned (.tuple #[.pointer none, .int .i64 0]) ∧ w = w' := by
  rcases h with rfl | ⟨⟨p, rfl⟩, rfl⟩
  all_goals
    go_enter Tryz.func31, Tryz.ntmps31
    go_wp2
    go_ret2
    exact ⟨rfl, rfl⟩
set_option maxRecDepth 100000 in
theorem vCross_no (pa pb : Option Addr) (w : World) (h : pa = none ∨ (∃ p, pa = some p) ∧ pb = none) : Calls Tryz.prog 32 #[.pointer pa, .pointer pb] w fun e w' => e = .returned (.tuple #[.pointer none, .int .i64 0]) ∧ w = w' := by
  rcases h with rfl | ⟨⟨p, rfl⟩, rfl⟩
  all_goals
    go_enter Tryz.func32, Tryz.ntmps32
    go_wp2
    go_ret2
    exact ⟨rfl, rfl⟩
/-- What New hands back, in one form. -/
def NewU (r : Except (Int × Nat) DbP) (pa : Option Addr) (w : World) : Prop :=
  match r with
  | .error _ => pa = none
  | .ok d => ∃ p, pa = some ⟨p, 0, none⟩ ∧ DbAt w p d
theorem wNew_u (t : List UInt8) (w : World) (hE : Env w) (ht : t.length ≤ maxLen) :
    Calls Tryz.prog 13 #[.string (bytesOf t)] w fun e w' => ∃ (pa : Option Addr) (k i : Int), e = .returned (.tuple #[.pointer pa, .int .i64 k, .int .i64 i]) ∧ NewU (newP t) pa w' ∧ Below w.heap.size w w' := by
  refine (wNew_any t w hE ht).mono ?_
  rintro e w' ⟨he, hb⟩
  cases hr : newP t with
  | error x => rw [hr] at he; exact ⟨none, x.1, (x.2 : Int), he, rfl, hb⟩
  | ok d =>
    rw [hr] at he
    obtain ⟨p, rfl, hd⟩ := he
    exact ⟨some ⟨p, 0, none⟩, 0, 0, rfl, ⟨p, rfl, hd⟩, hb⟩
def NewV (r : Except (Int × Nat) DbP) (base : Nat) (pa : Option Addr) (w : World) : Prop :=
  match r with
  | .error _ => pa = none
  | .ok d => ∃ p x, pa = some ⟨p, 0, none⟩ ∧ RfB w base p x d.names d.full
theorem vNew_u (t : List UInt8) (w : World) (ht : t.length ≤ maxLen) :
    Calls Tryz.prog 14 #[.string (bytesOf t)] w fun e w' => ∃ (pa : Option Addr) (k i : Int), e = .returned (.tuple #[.pointer pa, .int .i64 k, .int .i64 i]) ∧ NewV (newP t) w.heap.size pa w' ∧ Below w.heap.size w w' := by
  refine (vNew_any t w ht).mono ?_
  rintro e w' ⟨he, hb⟩
  cases hr : newP t with
  | error x => rw [hr] at he; exact ⟨none, x.1, (x.2 : Int), he, rfl, hb⟩
  | ok d =>
    rw [hr] at he
    obtain ⟨p, x, rfl, hd⟩ := he
    exact ⟨some ⟨p, 0, none⟩, 0, 0, rfl, ⟨p, x, rfl, hd⟩, hb⟩
theorem crossP_code {a b : DbP} {k : Int} (_h : crossP a b = .error k) : ((k : Int) != k) = false := by simp
set_option maxRecDepth 100000 in
set_option maxHeartbeats 8000000 in
theorem qPropsCross_any (s1 s2 : ByteArray) (Aq : Option Addr) (nz cq : Nat) (q : List Int) (w : World) (hE : Env w) (hs1 : s1.size ≤ maxLen) (hs2 : s2.size ≤ maxLen) (hq : Rd w 1 Aq (q.map fun r => [.int .i32 r])) (hql : q.length = nz) (hqn : nz ≤ maxLen) :
    Calls Tryz.prog 8 #[.string s1, .string s2, .slice Aq nz cq] w fun e w' => e = .returned (.bool true) ∧ Below w.heap.size w w' := by
  obtain ⟨t, rfl⟩ : ∃ t, s1 = bytesOf t := ⟨_, (bytesOf_data s1).symm⟩
  obtain ⟨u, rfl⟩ : ∃ t, s2 = bytesOf t := ⟨_, (bytesOf_data s2).symm⟩
  rw [bytesOf_size] at hs1 hs2
  have hszt : (bytesOf t).size = t.length := bytesOf_size t
  have hszu : (bytesOf u).size = u.length := bytesOf_size u
  have ht0 := hs1
  have hu0 := hs2
  unfold maxLen at hqn hs1 hs2
  rcases (by omega : 4000 < t.length ∨ (¬ 4000 < t.length ∧ 4000 < u.length) ∨ (¬ 4000 < t.length ∧ ¬ 4000 < u.length ∧ 60 < nz) ∨ (¬ 4000 < t.length ∧ ¬ 4000 < u.length ∧ ¬ 60 < nz)) with h1 | ⟨h1, h2⟩ | ⟨h1, h2, h3⟩ | ⟨h1, h2, h3⟩
  · have d1 : decide (4000 < t.length) = true := decide_eq_true h1
    go_enter Tryz.func8, Tryz.ntmps8
    go_wp2_with fail
    refine (qlive_any w hE).mono ?_
    rintro e w1 ⟨rfl, hb1⟩
    go_wp2
    go_ret
    exact ⟨rfl, hb1⟩
  · have d1 : decide (4000 < t.length) = false := decide_eq_false h1
    have d2 : decide (4000 < u.length) = true := decide_eq_true h2
    go_enter Tryz.func8, Tryz.ntmps8
    go_wp2_with fail
    refine (qlive_any w hE).mono ?_
    rintro e w1 ⟨rfl, hb1⟩
    go_wp2
    go_ret
    exact ⟨rfl, hb1⟩
  · have d1 : decide (4000 < t.length) = false := decide_eq_false h1
    have d2 : decide (4000 < u.length) = false := decide_eq_false h2
    have d3 : decide (60 < nz) = true := decide_eq_true h3
    go_enter Tryz.func8, Tryz.ntmps8
    go_wp2_with fail
    refine (qlive_any w hE).mono ?_
    rintro e w1 ⟨rfl, hb1⟩
    go_wp2
    go_ret
    exact ⟨rfl, hb1⟩
  have d1 : decide (4000 < t.length) = false := decide_eq_false h1
  have d2 : decide (4000 < u.length) = false := decide_eq_false h2
  have d3 : decide (60 < nz) = false := decide_eq_false h3
  have HA := Lib.hid (fun W h => wNew_u t W h ht0)
  have HB := Lib.hid (fun W h => wNew_u u W h hu0)
  have HX := Lib.hid (fun W => vNew_u t W ht0)
  have HY := Lib.hid (fun W => vNew_u u W hu0)
  have Hql := Lib.hid hql
  clear hql
  go_enter Tryz.func8, Tryz.ntmps8
  go_wp2_with fail
  refine (HA.out w hE).mono ?_
  rintro e w1 ⟨pa, ka, ia, rfl, hda, hb1⟩
  go_wp2_with fail
  refine (HB.out w1 (hE.below hb1)).mono ?_
  rintro e w2 ⟨pb, kb, ib, rfl, hdb, hb2⟩
  have hb12 := below_two hb1 hb2
  go_wp2_with fail
  refine (HX.out w2).mono ?_
  rintro e w3 ⟨px, kx, ix, rfl, hdx, hb3⟩
  have hb13 := below_two hb12 hb3
  go_wp2_with fail
  refine (HY.out w3).mono ?_
  rintro e w4 ⟨py, ky, iy, rfl, hdy, hb4⟩
  have hb14 := below_two hb13 hb4
  have hE4 := hE.below hb14
  have hq4 := hq.below hb14
  cases hra : newP t with
  | error x =>
    rw [hra] at hda hdx
    obtain rfl : pa = none := hda
    obtain rfl : px = none := hdx
    cases hrb : newP u with
    | error x2 =>
      rw [hrb] at hdb hdy
      obtain rfl : pb = none := hdb
      obtain rfl : py = none := hdy
      go_wp2_with (first
        | (go_at_call 31; refine (wCross_no none none _ (.inl rfl)).mono ?_; rintro e w' ⟨rfl, rfl⟩)
        | (go_at_call 32; refine (vCross_no none none _ (.inl rfl)).mono ?_; rintro e w' ⟨rfl, rfl⟩)
        | (go_at_call 15; refine (qnum_any _ _).mono ?_; rintro e w' ⟨rfl, rfl⟩)
        | (go_at_call 12; refine (qlive_any w4 hE4).mono ?_; rintro e w5 ⟨rfl, hb5⟩))
      go_ret
      exact ⟨rfl, below_two hb14 hb5⟩
    | ok db =>
      rw [hrb] at hdb hdy
      obtain ⟨q1, rfl, _⟩ := hdb
      obtain ⟨q2, x2, rfl, _⟩ := hdy
      go_wp2_with (first
        | (go_at_call 31; refine (wCross_no none _ _ (.inl rfl)).mono ?_; rintro e w' ⟨rfl, rfl⟩)
        | (go_at_call 32; refine (vCross_no none _ _ (.inl rfl)).mono ?_; rintro e w' ⟨rfl, rfl⟩)
        | (go_at_call 15; refine (qnum_any _ _).mono ?_; rintro e w' ⟨rfl, rfl⟩)
        | (go_at_call 12; refine (qlive_any w4 hE4).mono ?_; rintro e w5 ⟨rfl, hb5⟩))
      go_ret
      exact ⟨rfl, below_two hb14 hb5⟩
  | ok da =>
    rw [hra] at hda hdx
    obtain ⟨p1, rfl, hDa⟩ := hda
    obtain ⟨p2, x1, rfl, hDx⟩ := hdx
    cases hrb : newP u with
    | error x2 =>
      rw [hrb] at hdb hdy
      obtain rfl : pb = none := hdb
      obtain rfl : py = none := hdy
      go_wp2_with (first
        | (go_at_call 31; refine (wCross_no _ none _ (.inr ⟨⟨_, rfl⟩, rfl⟩)).mono ?_; rintro e w' ⟨rfl, rfl⟩)
        | (go_at_call 32; refine (vCross_no _ none _ (.inr ⟨⟨_, rfl⟩, rfl⟩)).mono ?_; rintro e w' ⟨rfl, rfl⟩)
        | (go_at_call 15; refine (qnum_any _ _).mono ?_; rintro e w' ⟨rfl, rfl⟩)
        | (go_at_call 12; refine (qlive_any w4 hE4).mono ?_; rintro e w5 ⟨rfl, hb5⟩))
      go_ret
      exact ⟨rfl, below_two hb14 hb5⟩
    | ok db =>
      rw [hrb] at hdb hdy
      obtain ⟨q1, rfl, hDb⟩ := hdb
      obtain ⟨q2, x2, rfl, hDy⟩ := hdy
      obtain ⟨oa, aa⟩ := newP_ok hra
      obtain ⟨ob, ab⟩ := newP_ok hrb
      have na := newP_named hra
      have nb := newP_named hrb
      have hDa4 := ((hDa.below hb2).below hb3).below hb4
      have hDb4 := (hDb.below hb3).below hb4
      have hDx4 := hDx.below hb4
      have HW := Lib.hid (wCross_any p1 q1 da db w4 hDa4 hDb4 oa aa ob ab na nb)
      have HV := Lib.hid (fun W h => vCross_any p2 q2 x1 x2 w2.heap.size w3.heap.size da db W (hDx4.below h) (hDy.below h) oa aa ob ab na nb)
      have HGa := Lib.hid (fun r W h => wGet_any p1 da r W h oa aa)
      have HGb := Lib.hid (fun r W h => wGet_any q1 db r W h ob ab)
      have HO := Lib.hid (fun d (h : crossP da db = .ok d) => And.intro (cross_ok (crossP_is h)) (And.intro (cross_apart oa aa ob ab (crossP_is h)) (And.intro (cross_named oa ob na nb (crossP_is h)) (fun p q => cross_law oa aa ob ab (crossP_is h) p q))))
      clear oa aa ob ab na nb hra hrb hDa hDb hDx hDy hb1 hb2 hb3 hb4 hb12 hb13 HA HB HX HY
      obtain ⟨R, hR⟩ : ∃ R, crossP da db = R := ⟨_, rfl⟩
      have HR := Lib.hid hR
      rw [hR] at HW HV
      clear hR
      go_wp2_with fail
      refine HW.out.mono ?_
      rintro e w5 ⟨hce, hb5⟩
      cases R with
      | error k =>
        have he : e = .returned (.tuple #[.pointer none, .int .i64 k]) := hce
        subst he
        have HV5 := Lib.hid (HV.out w5 hb5)
        have hkk : ((k : Int) != k) = false := by simp
        have hb15 := below_two hb14 hb5
        clear hce HV HO
        go_wp2_with fail
        refine HV5.out.mono ?_
        rintro e w6 ⟨he, hb6⟩
        have he : e = .returned (.tuple #[.pointer none, .int .i64 k]) := he
        subst he
        have hb16 := below_two hb15 hb6
        have hE6 := hE.below hb16
        go_wp2_with (first
          | (go_at_call 15; refine (qnum_any _ _).mono ?_; rintro e w' ⟨rfl, rfl⟩)
          | (go_at_call 12; refine (qlive_any w6 hE6).mono ?_; rintro e w7 ⟨rfl, hb7⟩))
        go_ret
        exact ⟨rfl, below_two hb16 hb7⟩
      | ok d =>
        have HV5 := Lib.hid (HV.out w5 hb5)
        obtain ⟨pd, rfl, hDd⟩ := hce
        have HOd := Lib.hid (HO.out d HR.out)
        have hb15 := below_two hb14 hb5
        clear HV HO
        go_wp2_with fail
        refine HV5.out.mono ?_
        rintro e w6 ⟨he, hb6⟩
        obtain ⟨pw, xw, rfl, hDw⟩ := he
        have hb16 := below_two hb15 hb6
        have hDd6 := hDd.below hb6
        have hDa6 := (hDa4.below hb5).below hb6
        have hDb6 := (hDb4.below hb5).below hb6
        have hq6 := hq.below hb16
        have HGd := Lib.hid (fun r W h => wGet_any pd d r W h HOd.out.1 HOd.out.2.1)
        clear hDd hDa4 hDb4 hDx4 hb5 hb6 hq4 hE4 hb14 hb15
        go_wp2_with (go_at_call 15; refine (qnum_any _ _).mono ?_; rintro e w' ⟨rfl, rfl⟩)
        go_loopw [23] (fun v wr => ∃ i : Nat, v = .int .i64 i ∧ i ≤ nz ∧ Below w6.heap.size w6 wr) (fun v _ => nz - (intOf v).toNat)
        case atStart => exact ⟨0, rfl, by omega, Below.refl _ _⟩
        case round =>
          obtain ⟨i, rfl, hi, hbr⟩ := hrel
          by_cases hlt : i < nz
          · go_wp2_with fail
            go_loopw [24] (fun v wr => ∃ k : Nat, v = .int .i64 k ∧ k ≤ i ∧ Below w6.heap.size w6 wr) (fun v _ => i - (intOf v).toNat)
            case atStart => exact ⟨0, rfl, by omega, hbr⟩
            case round =>
              clear hbr
              obtain ⟨k, rfl, hk, hbr⟩ := hrel
              have hszr := hbr.size
              by_cases hlk : k < i
              · obtain ⟨qb, qo, r1, rfl, Hr1, hc1⟩ := (hq6.below hbr).at1 (k := i) (by rw [Hql.out]; exact hlt)
                obtain ⟨qb', qo', r2, e2, Hr2, hc2⟩ := (hq6.below hbr).at1 (k := k) (by rw [Hql.out]; omega)
                injection e2 with e2; injection e2 with e21 e22 _
                subst e21; subst e22
                obtain ⟨A, GA, hA⟩ : ∃ z : Nat, Hid (∀ W, DbAt W pd d → Calls Tryz.prog 22 #[.pointer (some ⟨pd, 0, none⟩), .int .i32 r1] W fun e w' => e = .returned (.int .i64 (z : Nat)) ∧ Below W.heap.size W w') ∧ Hid (z = d.get r1) := ⟨_, fun W h => HGd.out r1 W h, rfl⟩
                obtain ⟨B, GB, hB⟩ : ∃ z : Nat, Hid (∀ W, DbAt W pd d → Calls Tryz.prog 22 #[.pointer (some ⟨pd, 0, none⟩), .int .i32 r2] W fun e w' => e = .returned (.int .i64 (z : Nat)) ∧ Below W.heap.size W w') ∧ Hid (z = d.get r2) := ⟨_, fun W h => HGd.out r2 W h, rfl⟩
                obtain ⟨C, GC, hC⟩ : ∃ z : Nat, Hid (∀ W, DbAt W p1 da → Calls Tryz.prog 22 #[.pointer (some ⟨p1, 0, none⟩), .int .i32 r1] W fun e w' => e = .returned (.int .i64 (z : Nat)) ∧ Below W.heap.size W w') ∧ Hid (z = da.get r1) := ⟨_, fun W h => HGa.out r1 W h, rfl⟩
                obtain ⟨D, GD, hD⟩ : ∃ z : Nat, Hid (∀ W, DbAt W p1 da → Calls Tryz.prog 22 #[.pointer (some ⟨p1, 0, none⟩), .int .i32 r2] W fun e w' => e = .returned (.int .i64 (z : Nat)) ∧ Below W.heap.size W w') ∧ Hid (z = da.get r2) := ⟨_, fun W h => HGa.out r2 W h, rfl⟩
                obtain ⟨E, GE, hE'⟩ : ∃ z : Nat, Hid (∀ W, DbAt W q1 db → Calls Tryz.prog 22 #[.pointer (some ⟨q1, 0, none⟩), .int .i32 r1] W fun e w' => e = .returned (.int .i64 (z : Nat)) ∧ Below W.heap.size W w') ∧ Hid (z = db.get r1) := ⟨_, fun W h => HGb.out r1 W h, rfl⟩
                obtain ⟨F, GF, hF⟩ : ∃ z : Nat, Hid (∀ W, DbAt W q1 db → Calls Tryz.prog 22 #[.pointer (some ⟨q1, 0, none⟩), .int .i32 r2] W fun e w' => e = .returned (.int .i64 (z : Nat)) ∧ Below W.heap.size W w') ∧ Hid (z = db.get r2) := ⟨_, fun W h => HGb.out r2 W h, rfl⟩
                have hlaw : A = B ↔ C = D ∧ E = F := by rw [hA.out, hB.out, hC.out, hD.out, hE'.out, hF.out]; exact HOd.out.2.2.2 r1 r2
                have hcs : (C = D ∧ E = F ∧ A = B) ∨ (C = D ∧ ((E : Int) == (F : Int)) = false ∧ ((A : Int) == (B : Int)) = false) ∨ (((C : Int) == (D : Int)) = false ∧ ((A : Int) == (B : Int)) = false) := by
                  have hb : ∀ x y : Nat, x ≠ y → ((x : Int) == (y : Int)) = false := fun x y h => beq_eq_false_iff_ne.2 (by omega)
                  by_cases h1 : C = D <;> by_cases h2 : E = F
                  · exact .inl ⟨h1, h2, hlaw.2 ⟨h1, h2⟩⟩
                  · exact .inr (.inl ⟨h1, hb _ _ h2, hb _ _ fun e => h2 (hlaw.1 e).2⟩)
                  · exact .inr (.inr ⟨hb _ _ h1, hb _ _ fun e => h1 (hlaw.1 e).1⟩)
                  · exact .inr (.inr ⟨hb _ _ h1, hb _ _ fun e => h1 (hlaw.1 e).1⟩)
                clear hlaw hA hB hC hD hE' hF
                have Hcs := Lib.hid hcs
                clear hcs
                go_wp2_with fail
                go_quiet (fail)
                have hbq : Below w6.heap.size w6 (wr.drewN nq) := below_drewN hbr _
                generalize wr.drewN nq = wq at hbq ⊢
                go_wp2_with fail
                refine (GA.out wq (hDd6.below hbq)).mono ?_
                rintro e v1 ⟨rfl, g1⟩
                have hv1 := hbq.trans (g1.mono hbq.size)
                go_wp2_with fail
                refine (GB.out v1 (hDd6.below hv1)).mono ?_
                rintro e v2 ⟨rfl, g2⟩
                have hv2 := hv1.trans (g2.mono hv1.size)
                go_wp2_with fail
                refine (GC.out v2 (hDa6.below hv2)).mono ?_
                rintro e v3 ⟨rfl, g3⟩
                have hv3 := hv2.trans (g3.mono hv2.size)
                go_wp2_with fail
                refine (GD.out v3 (hDa6.below hv3)).mono ?_
                rintro e v4 ⟨rfl, g4⟩
                have hv4 := hv3.trans (g4.mono hv3.size)
                clear g1 g2 g3 g4 hv1 hv2 hv3 hbq hbr
                rcases Hcs.out with ⟨rfl, rfl, rfl⟩ | ⟨rfl, e1, e2⟩ | ⟨e1, e2⟩
                · go_wp2_with fail
                  refine (GE.out v4 (hDb6.below hv4)).mono ?_
                  rintro e v5 ⟨rfl, g5⟩
                  have hv5 := hv4.trans (g5.mono hv4.size)
                  go_wp2_with fail
                  refine (GF.out v5 (hDb6.below hv5)).mono ?_
                  rintro e v6 ⟨rfl, g6⟩
                  have hv6 := hv5.trans (g6.mono hv5.size)
                  go_wp2
                  go_roundw
                  case rel => exact ⟨k + 1, by go_num, by omega, hv6⟩
                  case measure => simp [intOf]; omega
                · go_wp2_with fail
                  refine (GE.out v4 (hDb6.below hv4)).mono ?_
                  rintro e v5 ⟨rfl, g5⟩
                  have hv5 := hv4.trans (g5.mono hv4.size)
                  go_wp2_with fail
                  refine (GF.out v5 (hDb6.below hv5)).mono ?_
                  rintro e v6 ⟨rfl, g6⟩
                  have hv6 := hv5.trans (g6.mono hv5.size)
                  go_wp2
                  go_roundw
                  case rel => exact ⟨k + 1, by go_num, by omega, hv6⟩
                  case measure => simp [intOf]; omega
                · go_wp2
                  go_roundw
                  case rel => exact ⟨k + 1, by go_num, by omega, hv4⟩
                  case measure => simp [intOf]; omega
              · obtain rfl : k = i := by omega
                go_wp2
                go_roundw
                case rel => exact ⟨k + 1, by go_num, by omega, hbr⟩
                case measure => simp [intOf]; omega
          · obtain rfl : i = nz := by omega
            have hDd7 := hDd6.below hbr
            have hDw7 := hDw.below hbr
            have hq7 := hq6.below hbr
            have hbE := below_two hb16 hbr
            have HS := Lib.hid (qstands_any _ pd pw xw d Aq i cq q wr hDd7 hDw7 HOd.out.1 HOd.out.2.1 HOd.out.2.2.1 (hE.below hbE).tabB hq7 Hql.out (by omega))
            go_wp2_with fail
            refine HS.out.mono ?_
            rintro e w8 ⟨rfl, hb8⟩
            have hb18 := below_two hbE hb8
            go_wp2_with fail
            refine (qlive_any w8 (hE.below hb18)).mono ?_
            rintro e w9 ⟨rfl, hb9⟩
            go_wp2
            go_ret
            exact ⟨rfl, below_two hb18 hb9⟩
end Go.Proofs.YtejccafolfeabaaGreatDoor

