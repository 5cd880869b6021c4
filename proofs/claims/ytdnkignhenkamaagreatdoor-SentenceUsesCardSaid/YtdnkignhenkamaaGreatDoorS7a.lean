/-
  Several texts in one, in their build order: PrH, PrI, PrM, PrN, Vh, PrO, PrQ, Nb0, Nc, Nd, Ne, Nf, Nl, Gn, Gq.
-/
import Derived.Test.YtdnkignhenkamaaGreatDoorSPrF
import Derived.Test.YtdnkignhenkamaaGreatDoorS6a
import Derived.Test.YtdnkignhenkamaaGreatDoorS6b
import Derived.Test.YtdnkignhenkamaaGreatDoorSVg
import Derived.Test.YtdnkignhenkamaaGreatDoorS1a
import Derived.Test.YtdnkignhenkamaaGreatDoorS1b
/- -/
namespace Go.Proofs.YtdnkignhenkamaaGreatDoor
open Go.RowKit
def partsOf (w : World) (p : Nat) : Nat := (intOf ((w.cell? ⟨p, 4, none⟩).getD undef)).toNat
theorem RS.partsOf {w : World} {p : Nat} {s : ByteArray} {A : Option Addr} {nn cn : Nat} {names : List (List UInt8)} {a d k : Nat} (h : RS w p s A nn cn names a d k) : partsOf w p = k := by unfold YtdnkignhenkamaaGreatDoor.partsOf; rw [h.c4]; simp [intOf]
theorem infoPatH : (Tryz.prog.info? 126).map (fun i => (i.zero, i.size, i.bytes)) = some (some (.agg #[.int .i64 0, .slice none 0 0, .slice none 0 0]), 3, 56) := by kernel_rfl
theorem branchP_cases2 {ns : List (List UInt8)} {f d k k' : Nat} {acc : List Pat} {pat : Pat} {l rest : List UInt8} (h : branchP ns f d l k acc = some (pat, rest, k')) :
    ∃ c : UInt8, headN (skipB l) = c.toNat ∧ ((pBegins c = false ∧ pat = seqOf acc ∧ rest = skipB l ∧ k' = k) ∨
      (pBegins c = true ∧ ∃ r f' p l1 k1 q l2 k2, skipB l = c :: r ∧ f = f' + 1 ∧ atomP ns f' d c r k = some (p, l1, k1) ∧ opsGo f' p l1 k1 = some (q, l2, k2) ∧ branchP ns f' d l2 k2 (acc ++ [q]) = some (pat, rest, k'))) := by
  rcases branchP_cases h with ⟨hs, h1, h2, h3⟩ | ⟨c, r, hs, ⟨hb, h1, h2, h3⟩ | ⟨hb, f', p, l1, k1, q, l2, k2, h1, h2, h3, h4⟩⟩
  · exact ⟨0, by rw [hs]; rfl, .inl ⟨by decide, h1, by rw [hs, h2], h3⟩⟩
  · exact ⟨c, by rw [hs]; rfl, .inl ⟨hb, h1, by rw [hs, h2], h3⟩⟩
  · exact ⟨c, by rw [hs]; rfl, .inr ⟨hb, r, f', p, l1, k1, q, l2, k2, hs, h1, h2, h3, h4⟩⟩
theorem begins_nb {c : UInt8} (h : pBegins c = true) : pBlank c = false := by
  cases hb : pBlank c with
  | false => rfl
  | true =>
    exfalso
    unfold pBlank at hb
    rw [Bool.or_eq_true, decide_eq_true_iff, decide_eq_true_iff] at hb
    unfold pBegins pLetter at h
    simp only [Bool.or_eq_true, Bool.and_eq_true, decide_eq_true_iff] at h
    omega
theorem seqOf_many {l : List Pat} (h : 2 ≤ l.length) : seqOf l = .node 2 [] l := by
  match l, h with
  | [], h => simp at h
  | [_], h => simp at h
  | _ :: _ :: _, _ => rfl
theorem ops_cases2 {f k k2 : Nat} {p q : Pat} {l l2 : List UInt8} (h : opsGo f p l k = some (q, l2, k2)) :
    ∃ c : UInt8, headN (skipB l) = c.toNat ∧ ((pOper c = 0 ∧ q = p ∧ l2 = skipB l ∧ k2 = k) ∨ (pOper c ≠ 0 ∧ k < 512 ∧ ∃ r f', skipB l = c :: r ∧ opsGo f' (.node (pOper c) [] [p]) r (k + 1) = some (q, l2, k2))) := by
  rcases opsGo_cases h with ⟨hs, h1, h2, h3⟩ | ⟨c, r, hs, ⟨h0, h1, h2, h3⟩ | ⟨h0, hk, f', h1⟩⟩
  · exact ⟨0, by rw [hs]; rfl, .inl ⟨by decide, h1, by rw [hs, h2], h3⟩⟩
  · exact ⟨c, by rw [hs]; rfl, .inl ⟨h0, h1, by rw [hs, h2], h3⟩⟩
  · exact ⟨c, by rw [hs]; rfl, .inr ⟨h0, hk, r, f', hs, h1⟩⟩
def OffX (B : Nat) (A : Option Addr) (b : Nat) : Prop := B ≤ b ∧ ∀ a, A = some a → b ≠ a.block
set_option maxRecDepth 100000 in
theorem res_branch (w : World) (b : Nat) (v : Pv) (tmps : Array Value) (ht : tmps.getD 2 undef = .pointer (some ⟨b, 0, none⟩)) (hc : PCell w b v) : (results Tryz.f205 tmps).run Tryz.prog w = .ok (valPt v) w := by
  have ht' : tmps[2]?.getD undef = .pointer (some ⟨b, 0, none⟩) := by simpa [Array.getD_eq_getD_getElem?] using ht
  obtain ⟨h0, h1, h2⟩ := hc
  simp [results, Tryz.results205, go_sem, ht', h0, h1, h2, valPt]
set_option maxRecDepth 100000 in
set_option maxHeartbeats 8000000 in
theorem jbranch_any (p : Nat) (s : ByteArray) (A : Option Addr) (nn cn : Nat) (names : List (List UInt8)) (a d k k' f : Nat) (rest : List UInt8) (pat : Pat) (w : World)
    (HAt : Hid (∀ (f' a k k' : Nat) (c : UInt8) (r : List UInt8) (pat : Pat) (rest : List UInt8) (W : World), f' < f → RS W p s A nn cn names a d k → a ≤ s.size → skipB (s.data.toList.drop a) = c :: r → atomP names f' d c r k = some (pat, rest, k') → Calls Tryz.prog 235 #[.pointer (some ⟨p, 0, none⟩)] W (RdPost W p s A nn cn names d pat rest k')))
    (h : RS w p s A nn cn names a d k) (ha : a ≤ s.size) (hs : s.size ≤ 1000000) (hk : k ≤ 512)
    (hP : branchP names f d (s.data.toList.drop a) k [] = some (pat, rest, k')) :
    Calls Tryz.prog 205 #[.pointer (some ⟨p, 0, none⟩)] w (RdPost w p s A nn cn names d pat rest k') := by
  have hpw := h.lt
  have HAw := Lib.hid (fun x (hx : A = some x) => (h.off x hx).2)
  have hw0 := h.below ((Below.refl w.heap.size w).alloc (Nat.le_refl _) (.cells #[.int .i64 0, .slice none 0 0, .slice none 0 0] 126))
  have hB0 : Blk (w.alloc (.cells #[.int .i64 0, .slice none 0 0, .slice none 0 0] 126)) w.heap.size 126 #[.int .i64 0, .slice none 0 0, .slice none 0 0] := Blk.new w _ _
  have HS := Lib.hid (fun x kk W (h : RS W p s A nn cn names x d kk) (hx : x ≤ s.size) => jsees_any p s A nn cn names x d kk W h hx hs)
  have HP := Lib.hid hP
  clear hP h
  go_enter Tryz.func205, Tryz.ntmps205
  go_wp2_with fail
  go_loopw [3, 4, 5] (fun v3 _ _ wr => ∃ (x kk f0 : Nat) (acc0 : List Pat) (A0 : Option Addr) (n0 c0 : Nat) (vs : List Pv), v3 = .slice A0 n0 c0 ∧ f0 ≤ f ∧ n0 ≤ kk ∧ kk ≤ 512 ∧ RS wr p s A nn cn names x d kk ∧ Hid (branchP names f0 d (s.data.toList.drop x) kk acc0 = some (pat, rest, k')) ∧ x ≤ s.size ∧ w.grownBy wr (some p) ∧ Blk wr w.heap.size 126 #[.int .i64 0, .slice none 0 0, .slice none 0 0] ∧ Own wr (w.heap.size + 1) 126 3 A0 n0 c0 (vs.map encPt) ∧ PatsX wr (OffX (w.heap.size + 1) A0) acc0 vs) (fun _ _ _ wr => 512 - partsOf wr p)
  case atStart => exact ⟨a, k, f, [], none, 0, 0, [], rfl, Nat.le_refl _, Nat.zero_le _, hk, hw0, HP, ha, only_alloc (only_refl w _) _, hB0, Own.nil_ _ _ _ _, by simp only [PatsX]⟩
  case round =>
    clear hw0 HP hB0
    obtain ⟨x, kk, f0, acc0, A0, n0, c0, vs, rfl, hf0, hn0, hkk, hr, HG, hx, hg, hB, ho, hps⟩ := hrel
    have Hat := Lib.hid hr.partsOf
    have c5 := hr.c5
    obtain ⟨c, hc, hcs⟩ := branchP_cases2 HG.out
    have Hcs := Lib.hid hcs
    have h0 := HS.out x kk _ hr hx
    rw [hc] at h0
    have HS1 := Lib.hid h0
    clear h0 hc hcs HG
    go_wp2_with fail
    refine HS1.out.mono ?_
    rintro e w5 ⟨rfl, x1, hr5, hd5, hx1, hg5⟩
    have HBg := Lib.hid (jbegins_b c w5)
    have hB5 := hB.grown hg5 (fun e => by injection e with e; omega)
    have ho5 := ho.grown hg5 (fun a ha e => by have := (ho.lt a ha).1; injection e with e; omega)
    have hps5 := hps.keep (KeepX.grown hg5 (fun r hr h => by injection hr with hr; subst hr; have := h.1; omega))
    have hgg := only_trans hg hg5
    have Hd5 := Lib.hid hd5
    clear hr hB ho hps hg hg5 c5 HS1 hd5
    rcases Hcs.out with ⟨hbg, hpe, hre, hke⟩ | ⟨hbg, r, f', p1, l1, k1, q, l2, k2, hsk, hfe, hat, hop, hbr⟩
    · rw [hbg] at HBg
      clear Hcs
      go_wp2_with fail
      refine HBg.out.mono ?_
      rintro e w6 ⟨rfl, rfl⟩
      have hvl : vs.length = n0 := by have := ho5.len; simpa using this
      have hal := hps5.len
      have z0 := hB5.cell 0
      have z1 := hB5.cell 1
      have z2 := hB5.cell 2
      simp only [List.getElem?_toArray, List.getElem?_cons_succ, List.getElem?_cons_zero] at z0 z1 z2
      have g0 := hB5.frozen 0
      have g1 := hB5.frozen 1
      have g2 := hB5.frozen 2
      by_cases h0n : n0 = 0
      · subst h0n
        have hac : acc0 = [] := List.eq_nil_of_length_eq_zero (by omega)
        subst hac
        have HQ := Lib.hid (pt_end (B := w.heap.size + 1) (pat := .node 0 [] []) (0, (none, 0, 0), (none, 0, 0)) hB5 hr5 hpw HAw.out hgg (by omega) (by simp only [PatX]; exact ⟨trivial, SlX.nil_ _ _ _, [], SlX.nil_ _ _ _, by simp only [PatsX]⟩))
        go_wp2
        obtain ⟨q1, q2, q3, q4⟩ := HQ.out
        refine bodyPost_ret (res_branch _ w.heap.size (0, (none, 0, 0), (none, 0, 0)) _ rfl (PCell.of_blk q1)) rfl ?_
        rw [hpe, hke]
        exact ⟨_, _, rfl, q2, by rw [Hd5.out, hre], hx1, q3, q4⟩
      · have t0 : ((n0 : Int) == 0) = false := by rw [beq_eq_false_iff_ne]; omega
        by_cases h1n : n0 = 1
        · subst h1n
          obtain ⟨v, rfl⟩ : ∃ v, vs = [v] := List.length_eq_one_iff.1 hvl
          obtain ⟨p0, rfl⟩ : ∃ v, acc0 = [v] := List.length_eq_one_iff.1 (by omega)
          obtain ⟨v', hv', hpv⟩ := hps5.at_ (k := 0) rfl
          injection hv' with hv'
          subst hv'
          obtain ⟨b0, off0, eA, e0, e1, e2⟩ := (SlX.own ho5 (by decide) (X := fun b => w.heap.size + 1 ≤ b) (fun a ha => (ho5.lt a ha).1)).atPt (k := 0) rfl
          simp only at eA
          subst eA
          have HQ := Lib.hid (pt_end (B := w.heap.size + 1) v hB5 hr5 hpw HAw.out hgg (by omega) (hpv.keep (KeepX.same (fun b h _ => h.1))))
          obtain ⟨v0, ⟨A1, n1, c1'⟩, ⟨A2, n2, c2'⟩⟩ := v
          simp only [Nat.zero_mul, Nat.add_zero] at e0 e1 e2
          go_wp2
          obtain ⟨q1, q2, q3, q4⟩ := HQ.out
          refine bodyPost_ret (res_branch _ w.heap.size (v0, (A1, n1, c1'), (A2, n2, c2')) _ rfl (PCell.of_blk q1)) rfl ?_
          rw [hpe, hke]
          exact ⟨_, _, rfl, q2, by rw [Hd5.out, hre], hx1, q3, q4⟩
        · have t1 : ((n0 : Int) == 1) = false := by rw [beq_eq_false_iff_ne]; omega
          have HQ := Lib.hid (pt_end (B := w.heap.size + 1) (pat := .node 2 [] acc0) (2, (none, 0, 0), (A0, n0, c0)) hB5 hr5 hpw HAw.out hgg (by omega) (by simp only [PatX]; exact ⟨trivial, SlX.nil_ _ _ _, vs, SlX.own ho5 (by decide) (fun a ha => (ho5.lt a ha).1), hps5.keep (KeepX.same (fun b h _ => h.1))⟩))
          go_wp2
          obtain ⟨q1, q2, q3, q4⟩ := HQ.out
          refine bodyPost_ret (res_branch _ w.heap.size (2, (none, 0, 0), (A0, n0, c0)) _ rfl (PCell.of_blk q1)) rfl ?_
          rw [hpe, hke, seqOf_many (by omega)]
          exact ⟨_, _, rfl, q2, by rw [Hd5.out, hre], hx1, q3, q4⟩
    · rw [hbg] at HBg
      clear Hcs
      go_wp2_with fail
      refine HBg.out.mono ?_
      rintro e w6 ⟨rfl, rfl⟩
      have HA1 := Lib.hid (HAt.out f' x1 kk k1 c r p1 l1 w5 (by omega) hr5 hx1 (by rw [Hd5.out, hsk]; exact skip_stop (begins_nb hbg)) hat)
      go_wp2_with fail
      refine HA1.out.mono ?_
      rintro e w7 hq
      obtain ⟨v1, x2, rfl, hr7, hd7, hx7, hg7, hp7⟩ := hq
      obtain ⟨v0, ⟨A1, n1, c1'⟩, ⟨A2, n2, c2'⟩⟩ := v1
      obtain ⟨hk5, hku⟩ := (parts_up names f').2.2.2 hat
      have hal : Below w7.heap.size w7 (w7.alloc (.cells #[.int .i64 (v0 : Int), .slice A1 n1 c1', .slice A2 n2 c2'] 126)) := (Below.refl w7.heap.size w7).alloc (Nat.le_refl _) _
      have hN8 : Blk (w7.alloc (.cells #[.int .i64 (v0 : Int), .slice A1 n1 c1', .slice A2 n2 c2'] 126)) w7.heap.size 126 #[.int .i64 (v0 : Int), .slice A1 n1 c1', .slice A2 n2 c2'] := Blk.new _ _ _
      have hr8 := hr7.below hal
      have hB8 := (hB5.grown hg7 (fun e => by injection e with e; omega)).below hal
      have ho8 := (ho5.grown hg7 (fun a ha e => by have := (ho5.lt a ha).1; injection e with e; omega)).below hal
      have hg8 := only_below (only_trans hgg hg7) hal
      have hz5 := hB5.lt
      have hz7 := hg7.size
      have hA0 : ∀ a, A0 = some a → a.block < w5.heap.size := fun a ha => (ho5.lt a ha).2
      have hps8 : PatsX (w7.alloc (.cells #[.int .i64 (v0 : Int), .slice A1 n1 c1', .slice A2 n2 c2'] 126)) (fun b => OffX (w.heap.size + 1) A0 b ∧ b ≠ w7.heap.size) acc0 vs := ((hps5.keep (KeepX.grown hg7 (fun r hr h => by injection hr with hr; subst hr; have := h.1; omega))).keep (KeepX.same (fun b h hb => ⟨h, by omega⟩))).below hal
      have hp8 : PatX (w7.alloc (.cells #[.int .i64 (v0 : Int), .slice A1 n1 c1', .slice A2 n2 c2'] 126)) (fun b => OffX (w.heap.size + 1) A0 b ∧ b ≠ w7.heap.size) p1 (v0, (A1, n1, c1'), (A2, n2, c2')) := PatX.below (hp7.keep (KeepX.same (fun b h hb => ⟨⟨by omega, fun a ha e => by have := hA0 a ha; omega⟩, by omega⟩))) hal
      have HO2 := Lib.hid hop
      have HBr := Lib.hid hbr
      clear HA1 hop hbr hat hp7 hr7 hsk HBg hbg
      simp only [valPt]
      go_wp2_with fail
      generalize w7.alloc (.cells #[.int .i64 (v0 : Int), .slice A1 n1 c1', .slice A2 n2 c2'] 126) = V at hr8 hN8 hB8 ho8 hps8 hg8 hp8 ⊢
      clear hal hps5 ho5 hB5 hr5 hg7 hgg
      generalize w7.heap.size = g at hN8 hp8 hps8 hz7 ⊢
      go_loopw [5] (fun _ wr => ∃ (y k9 f9 : Nat) (p9 : Pat) (v9 : Pv), RS wr p s A nn cn names y d k9 ∧ Hid (opsGo f9 p9 (s.data.toList.drop y) k9 = some (q, l2, k2)) ∧ y ≤ s.size ∧ kk < k9 ∧ k9 ≤ 512 ∧ w.grownBy wr (some p) ∧ Blk wr w.heap.size 126 #[.int .i64 0, .slice none 0 0, .slice none 0 0] ∧ Own wr (w.heap.size + 1) 126 3 A0 n0 c0 (vs.map encPt) ∧ PatsX wr (fun b => OffX (w.heap.size + 1) A0 b ∧ b ≠ g) acc0 vs ∧ Blk wr g 126 #[.int .i64 (v9.1 : Int), .slice v9.2.1.1 v9.2.1.2.1 v9.2.1.2.2, .slice v9.2.2.1 v9.2.2.2.1 v9.2.2.2.2] ∧ PatX wr (fun b => OffX (w.heap.size + 1) A0 b ∧ b ≠ g) p9 v9) (fun _ wr => 512 - partsOf wr p)
      case atStart => exact ⟨x2, k1, f', p1, (v0, (A1, n1, c1'), (A2, n2, c2')), hr8, by rw [hd7]; exact HO2, hx7, hku.1, hku.2 (by omega), hg8, hB8, ho8, hps8, hN8, hp8⟩
      case round =>
        clear hr8 hN8 hB8 ho8 hps8 hg8 hp8 hd7 HO2
        obtain ⟨y, k9, f9, p9, v9, hr, HO, hy, hk9, hk9', hg, hB, ho, hps, hN, hp9⟩ := hrel
        have Hat9 := Lib.hid hr.partsOf
        obtain ⟨co, hco, hcs2⟩ := ops_cases2 HO.out
        have Hcs2 := Lib.hid hcs2
        have c5 := hr.c5
        have h0 := HS.out y k9 _ hr hy
        rw [hco] at h0
        have HS2 := Lib.hid h0
        clear h0 hco hcs2 HO
        go_wp2_with fail
        refine HS2.out.mono ?_
        rintro e w9 ⟨rfl, y1, hr9, hd9, hy1, hg9⟩
        have HOp := Lib.hid (joper_b co w9)
        have hgp : g ≠ p := by omega
        have hB9 := hB.grown hg9 (fun e => by injection e with e; omega)
        have ho9 := ho.grown hg9 (fun a ha e => by have := (ho.lt a ha).1; injection e with e; omega)
        have hps9 := hps.keep (KeepX.grown hg9 (fun r hr h => by injection hr with hr; subst hr; have := h.1.1; omega))
        have hN9 := hN.grown hg9 (fun e => by injection e with e; omega)
        have hpp := hp9.keep (KeepX.grown hg9 (fun r hr h => by injection hr with hr; subst hr; have := h.1.1; omega))
        have hgg9 := only_trans hg hg9
        have Hd9 := Lib.hid hd9
        clear hr hB ho hps hN hp9 hg hg9 hd9 HS2 c5
        rcases Hcs2.out with ⟨hz, hqe, hle, hke⟩ | ⟨hz, hk5, r9, f8, hsk9, hop9⟩
        · rw [hz] at HOp
          go_wp2_with fail
          refine HOp.out.mono ?_
          rintro e w6 ⟨rfl, rfl⟩
          obtain ⟨i0, hi0, hz0, hz1, hz2⟩ := info_parts infoPatH
          have e0 := hN9.cell 0
          have e1 := hN9.cell 1
          have e2 := hN9.cell 2
          simp only [List.getElem?_toArray, List.getElem?_cons_succ, List.getElem?_cons_zero] at e0 e1 e2
          have T1 := ho9.alloc (.cells #[.int .i64 (v9.1 : Int), .slice v9.2.1.1 v9.2.1.2.1 v9.2.1.2.2, .slice v9.2.2.1 v9.2.2.2.1 v9.2.2.2.2] 126)
          have T3 : w.heap.size + 1 ≤ (w9.alloc (.cells #[.int .i64 (v9.1 : Int), .slice v9.2.1.1 v9.2.1.2.1 v9.2.1.2.2, .slice v9.2.2.1 v9.2.2.2.1 v9.2.2.2.2] 126)).heap.size := by have := hB9.lt; simp; omega
          have T2 : (n0 + 1) * 56 ≤ 140737488355328 := by omega
          have T4 : ∀ y ∈ [encPt v9], y.length = 3 ∧ ∀ u ∈ y, u.oneCell' = true := fun y hy => by
            simp only [List.mem_singleton] at hy
            subst hy
            refine ⟨rfl, fun u hu => ?_⟩
            simp only [encPt, List.mem_cons, List.not_mem_nil, or_false] at hu
            rcases hu with rfl | rfl | rfl <;> rfl
          have T5 : Rd (w9.alloc (.cells #[.int .i64 (v9.1 : Int), .slice v9.2.1.1 v9.2.1.2.1 v9.2.1.2.2, .slice v9.2.2.1 v9.2.2.2.1 v9.2.2.2.2] 126)) 3 (some ⟨w9.heap.size, 0, none⟩) [encPt v9] := Rd.newAt (by simp) rfl
          have T6 : n0 + 1 ≤ maxLen := by unfold maxLen; omega
          go_wp2_with (at_builtin; refine wpList_app rfl (.tmp 45) (.tmp 47) _ rfl (w.heap.size + 1) 126 i0 _ 3 56 Tryz.underlying124 hi0 hz0 hz1 hz2 rfl (by omega) A0 n0 c0 (vs.map encPt) rfl T1 _ 1 1 [encPt v9] rfl rfl T5 T4 T6 T2 T3 ?_; intro A3 c3 w10 ho10 hg10 hA10)
          have hb10 : Below w.heap.size w9 w10 := below_app ((Below.refl w.heap.size w9).alloc (by have := hB9.lt; omega) _) hg10 (by have := hB9.lt; simp; omega) (fun a ha => by have := (ho9.lt a ha).1; omega)
          have hr10 := hr9.belowB hb10 hpw HAw.out
          have HG10 : Hid (branchP names f' d (s.data.toList.drop y1) k9 (acc0 ++ [p9]) = some (pat, rest, k')) := Lib.hid (by
            have h := HBr.out
            rw [hqe, hle, hke] at h
            rw [Hd9.out]; exact h)
          have hg10' : w.grownBy w10 (some p) := ⟨hb10.os.trans hgg9.os, hb10.tape.trans hgg9.tape, hb10.output.trans hgg9.output, Nat.le_trans hgg9.size hb10.size, fun i hi hne => (hb10.block i hi).trans (hgg9.block i hi hne)⟩
          have hNE : some w.heap.size ≠ A0.map (·.block) := fun e => by
            cases hA1 : A0 with
            | none => rw [hA1] at e; cases e
            | some a => rw [hA1] at e; injection e with e; have e2 : w.heap.size = a.block := e; have := (ho9.lt a hA1).1; omega
          have hB10 := (hB9.alloc (.cells #[.int .i64 (v9.1 : Int), .slice v9.2.1.1 v9.2.1.2.1 v9.2.1.2.2, .slice v9.2.2.1 v9.2.2.2.1 v9.2.2.2.2] 126)).grown hg10 hNE
          have hkx : KeepX (OffX (w.heap.size + 1) A0) (OffX (w.heap.size + 1) A3) w9 w10 := (KeepX.below ((Below.refl w9.heap.size w9).alloc (Nat.le_refl _) (.cells #[.int .i64 (v9.1 : Int), .slice v9.2.1.1 v9.2.1.2.1 v9.2.1.2.2, .slice v9.2.2.1 v9.2.2.2.1 v9.2.2.2.2] 126))).trans ⟨hg10.size, fun b hb hl => hg10.block b hl (fun e => by
              cases hA1 : A0 with
              | none => rw [hA1] at e; cases e
              | some a => rw [hA1] at e; injection e with e; exact hb.2 a hA1 e), fun b hb hl => ⟨hb.1, fun a ha e => by
              rcases hA10 with h1 | h1
              · exact hb.2 a (by rw [← h1]; exact ha) e
              · rw [h1] at ha
                injection ha with ha
                subst ha
                simp at hl e
                omega⟩⟩
          have hps10 := PatsX.snoc (hpp.keep (KeepX.trans (KeepX.same (fun b hb _ => hb.1)) hkx)) (hps9.keep (KeepX.trans (KeepX.same (fun b hb _ => hb.1)) hkx))
          refine ⟨⟨y1, k9, f', acc0 ++ [p9], A3, n0 + 1, c3, vs ++ [v9], rfl, by omega, by omega, hk9', hr10, HG10, hy1, hg10', hB10, by rw [List.map_append]; exact ho10, hps10⟩, ?_⟩
          rw [hr10.partsOf, Hat.out]; omega
        · have hys : y1 < s.size := Nat.lt_of_not_le fun hle => by
            have h1 := Hd9.out
            rw [drop_end s (by omega), hsk9] at h1
            cases h1
          have hdr9 : s.data.toList.drop (y1 + 1) = r9 := by
            obtain ⟨b', h1, _⟩ := byte_at s hys
            have h2 := Hd9.out
            rw [h1, hsk9] at h2
            injection h2
          have HOg : Hid (opsGo f8 (.node (pOper co) [] [p9]) (s.data.toList.drop (y1 + 1)) (k9 + 1) = some (q, l2, k2)) := Lib.hid (by rw [hdr9]; exact hop9)
          have HC := Lib.hid (jcounts_any p s A nn cn names y1 d k9 (y1 : Int) w9 hr9 hk5)
          have t0 : ((pOper co : Int) == 0) = false := by rw [beq_eq_false_iff_ne]; omega
          have c1 := hr9.c1
          have hz9 := hN9.lt
          clear hop9 hsk9 hdr9 Hd9
          go_wp2_with fail
          refine HOp.out.mono ?_
          rintro e w6 ⟨rfl, rfl⟩
          go_wp2_with fail
          refine HC.out.mono ?_
          rintro e w10 ⟨rfl, hr10, hg10⟩
          have hB10 := hB9.grown hg10 (fun e => by injection e with e; omega)
          have ho10 := ho9.grown hg10 (fun a ha e => by have := (ho9.lt a ha).1; injection e with e; omega)
          have hps10 := hps9.keep (KeepX.grown hg10 (fun r hr h => by injection hr with hr; subst hr; have := h.1.1; omega))
          have hN10 := hN9.grown hg10 (fun e => by injection e with e; omega)
          have hpp10 := hpp.keep (KeepX.grown hg10 (fun r hr h => by injection hr with hr; subst hr; have := h.1.1; omega))
          have hgg10 := only_trans hgg9 hg10
          clear hr9 hB9 ho9 hps9 hN9 hpp hgg9 hg10 c1 HC hz9
          have c1 := hr10.c1
          have f1 := hr10.f 1
          have hr11 := hr10.setAt (y1 + 1)
          have ez : ((y1 + 1 : Nat) : Int) = (y1 : Int) + 1 := by omega
          rw [ez] at hr11
          have hB11 := hB10.far (p := ⟨p, 1, none⟩) (by simp; omega) (.int .i64 ((y1 : Int) + 1))
          have hN11 := hN10.far (p := ⟨p, 1, none⟩) (by simp; omega) (.int .i64 ((y1 : Int) + 1))
          have ho11 := ho10.setCell (p := ⟨p, 1, none⟩) (fun a ha e => by have := (ho10.lt a ha).1; simp only at e; omega) (.int .i64 ((y1 : Int) + 1))
          have hk11 : w10.grownBy (w10.setCell ⟨p, 1, none⟩ (.int .i64 ((y1 : Int) + 1))) (some p) := only_setCell (only_refl _ _) (p := ⟨p, 1, none⟩) (.inl rfl) _
          have hps11 := hps10.keep (KeepX.grown hk11 (fun r hr h => by injection hr with hr; subst hr; have := h.1.1; omega))
          have hpp11 := hpp10.keep (KeepX.grown hk11 (fun r hr h => by injection hr with hr; subst hr; have := h.1.1; omega))
          have hg11 := only_trans hgg10 hk11
          clear hr10 hB10 ho10 hps10 hN10 hpp10 hgg10 hk11 ez
          go_upto_region 9 with fail
          clear c1 f1
          generalize w10.setCell ⟨p, 1, none⟩ (.int .i64 ((y1 : Int) + 1)) = V at hr11 hB11 hN11 ho11 hps11 hpp11 hg11 ⊢
          have e0 := hN11.cell 0
          have e1 := hN11.cell 1
          have e2 := hN11.cell 2
          simp only [List.getElem?_toArray, List.getElem?_cons_succ, List.getElem?_cons_zero] at e0 e1 e2
          have g0 := hN11.frozen 0
          have g1 := hN11.frozen 1
          have g2 := hN11.frozen 2
          have hVz := hN11.lt
          have hgw : w.heap.size < g := by omega
          have hgA : ∀ a, A0 = some a → a.block ≠ g := fun a ha e => by have := hA0 a ha; omega
          have hAV : ∀ a, A0 = some a → a.block < V.heap.size := fun a ha => (ho11.lt a ha).2
          have hbU : Below w.heap.size V (((V.setCell ⟨g, 0, none⟩ (.int .i64 (pOper co : Nat))).setCell ⟨g, 1, none⟩ (.slice none 0 0)).setCell ⟨g, 2, none⟩ (.slice (some ⟨V.heap.size, 0, none⟩) 1 1)) := (((Below.refl _ _).setCell (p := ⟨g, 0, none⟩) (by simp; omega) _).setCell (p := ⟨g, 1, none⟩) (by simp; omega) _).setCell (p := ⟨g, 2, none⟩) (by simp; omega) _
          have hgU : V.grownBy (((V.setCell ⟨g, 0, none⟩ (.int .i64 (pOper co : Nat))).setCell ⟨g, 1, none⟩ (.slice none 0 0)).setCell ⟨g, 2, none⟩ (.slice (some ⟨V.heap.size, 0, none⟩) 1 1)) (some g) := only_setCell (only_setCell (only_setCell (only_refl _ _) (p := ⟨g, 0, none⟩) (.inl rfl) _) (p := ⟨g, 1, none⟩) (.inl rfl) _) (p := ⟨g, 2, none⟩) (.inl rfl) _
          have hN12 := ((hN11.set_ 0 (.int .i64 (pOper co : Nat))).set_ 1 (.slice none 0 0)).set_ 2 (.slice (some ⟨V.heap.size, 0, none⟩) 1 1)
          simp only [List.setIfInBounds_toArray, List.set_cons_zero, List.set_cons_succ] at hN12
          have hr12 := hr11.belowB hbU hpw HAw.out
          have hkU : KeepX (fun b => OffX (w.heap.size + 1) A0 b ∧ b ≠ g) (fun b => OffX (w.heap.size + 1) A0 b ∧ b ≠ g) V (((V.setCell ⟨g, 0, none⟩ (.int .i64 (pOper co : Nat))).setCell ⟨g, 1, none⟩ (.slice none 0 0)).setCell ⟨g, 2, none⟩ (.slice (some ⟨V.heap.size, 0, none⟩) 1 1)) := KeepX.grown hgU (fun r hr h => by injection hr with hr; exact h.2 hr.symm)
          have hg12 := only_setCell (only_setCell (only_setCell hg11 (p := ⟨g, 0, none⟩) (.inr (by simp; omega)) (.int .i64 (pOper co : Nat))) (p := ⟨g, 1, none⟩) (.inr (by simp; omega)) (.slice none 0 0)) (p := ⟨g, 2, none⟩) (.inr (by simp; omega)) (.slice (some ⟨V.heap.size, 0, none⟩) 1 1)
          have hB12 := ((hB11.far (p := ⟨g, 0, none⟩) (by simp; omega) (.int .i64 (pOper co : Nat))).far (p := ⟨g, 1, none⟩) (by simp; omega) (.slice none 0 0)).far (p := ⟨g, 2, none⟩) (by simp; omega) (.slice (some ⟨V.heap.size, 0, none⟩) 1 1)
          have ho12 := ((ho11.setCell (p := ⟨g, 0, none⟩) hgA (.int .i64 (pOper co : Nat))).setCell (p := ⟨g, 1, none⟩) hgA (.slice none 0 0)).setCell (p := ⟨g, 2, none⟩) hgA (.slice (some ⟨V.heap.size, 0, none⟩) 1 1)
          have hps12 := hps11.keep hkU
          have hpp12 := hpp11.keep hkU
          have hUz : (((V.setCell ⟨g, 0, none⟩ (.int .i64 (pOper co : Nat))).setCell ⟨g, 1, none⟩ (.slice none 0 0)).setCell ⟨g, 2, none⟩ (.slice (some ⟨V.heap.size, 0, none⟩) 1 1)).heap.size = V.heap.size := by simp
          have HF := Lib.hid (And.intro hB12 (And.intro hr12 (And.intro ho12 (And.intro hps12 (And.intro hpp12 (And.intro hg12 (And.intro hN12 hUz)))))))
          clear hB12 hr12 ho12 hps12 hpp12 hg12 hN12 hUz hkU hgU hbU hr11 hB11 hN11 ho11 hps11 hpp11 hg11
          go_wp2
          obtain ⟨hB12, hr12, ho12, hps12, hpp12, hg12, hN12, hUz⟩ := HF.out
          generalize ((V.setCell ⟨g, 0, none⟩ (.int .i64 (pOper co : Nat))).setCell ⟨g, 1, none⟩ (.slice none 0 0)).setCell ⟨g, 2, none⟩ (.slice (some ⟨V.heap.size, 0, none⟩) 1 1) = U at hB12 hr12 ho12 hps12 hpp12 hg12 hN12 hUz ⊢
          clear g0 g1 g2 HF
          have hbV : Below U.heap.size U (U.alloc (.cells #[.int .i64 (v9.1 : Int), .slice v9.2.1.1 v9.2.1.2.1 v9.2.1.2.2, .slice v9.2.2.1 v9.2.2.2.1 v9.2.2.2.2] 126)) := (Below.refl U.heap.size U).alloc (Nat.le_refl _) _
          have hr13 := hr12.below hbV
          have hR13 : Rd (U.alloc (.cells #[.int .i64 (v9.1 : Int), .slice v9.2.1.1 v9.2.1.2.1 v9.2.1.2.2, .slice v9.2.2.1 v9.2.2.2.1 v9.2.2.2.2] 126)) 3 (some ⟨V.heap.size, 0, none⟩) ([v9].map encPt) := Rd.newAt hUz.symm rfl
          refine ⟨⟨y1 + 1, k9 + 1, f8, .node (pOper co) [] [p9], (pOper co, (none, 0, 0), (some ⟨V.heap.size, 0, none⟩, 1, 1)), hr13, HOg, by omega, by omega, by omega, only_below hg12 hbV, hB12.below hbV, ho12.below hbV, hps12.below hbV, hN12.below hbV, ?_⟩, ?_⟩
          · simp only [PatX]
            refine ⟨trivial, SlX.nil_ _ _ _, [v9], ⟨hR13, rfl, fun a ha => ?_⟩, ?_⟩
            · injection ha with ha
              subst ha
              exact ⟨⟨⟨by simp; omega, fun a ha e => by have := hAV a ha; simp only at e; omega⟩, by simp; omega⟩, by simp; omega⟩
            · simp only [PatsX]
              exact ⟨v9, [], rfl, hpp12.below hbV, rfl⟩
          · rw [hr13.partsOf, Hat9.out]; omega
end Go.Proofs.YtdnkignhenkamaaGreatDoor

/- -/
namespace Go.Proofs.YtdnkignhenkamaaGreatDoor
open Go.RowKit
theorem own_three {w : World} {t : TypeId} {a b c : Value} {base : Nat} (hb : base ≤ w.heap.size) : Own (w.alloc (.cells #[a, b, c] t)) base t 3 (some ⟨w.heap.size, 0, none⟩) 1 1 [[a, b, c]] :=
  ⟨rfl, by simp, by simp, .inr ⟨w.heap.size, 1, #[a, b, c], rfl, hb, heap_alloc_new _ _, Nat.le_refl _, by unfold maxLen; omega, rfl, by simp⟩⟩
theorem altsP_cases2 {ns : List (List UInt8)} {f d k k' : Nat} {acc : List Pat} {pat : Pat} {l rest : List UInt8} (h : altsP ns f d l k acc = some (pat, rest, k')) :
    ∃ c : UInt8, headN (skipB l) = c.toNat ∧ ((c.toNat ≠ 124 ∧ pat = altOf acc ∧ rest = skipB l ∧ k' = k ∧ (rest = [] ∨ ∃ r, rest = c :: r ∧ c.toNat = 41 ∧ 0 < d)) ∨
      (c.toNat = 124 ∧ k < 512 ∧ ∃ r f' p l1 k1, skipB l = c :: r ∧ f = f' + 1 ∧ branchP ns f' d r (k + 1) [] = some (p, l1, k1) ∧ altsP ns f' d l1 k1 (acc ++ [p]) = some (pat, rest, k'))) := by
  rcases altsP_cases h with ⟨hs, h1, h2, h3⟩ | ⟨c, r, hs, ⟨hc, hk, f', p, l1, k1, h1, h2, h3⟩ | ⟨hc, hd, h1, h2, h3⟩⟩
  · exact ⟨0, by rw [hs]; rfl, .inl ⟨by decide, h1, by rw [hs, h2], h3, .inl h2⟩⟩
  · exact ⟨c, by rw [hs]; rfl, .inr ⟨hc, hk, r, f', p, l1, k1, hs, h1, h2, h3⟩⟩
  · exact ⟨c, by rw [hs]; rfl, .inl ⟨by omega, h1, by rw [hs, h2], h3, .inr ⟨r, h2, hc, hd⟩⟩⟩
theorem altOf_many {l : List Pat} (h : 2 ≤ l.length) : altOf l = .node 3 [] l := by
  match l, h with
  | [], h => simp at h
  | [_], h => simp at h
  | _ :: _ :: _, _ => rfl
set_option maxRecDepth 100000 in
theorem res_pattern (w : World) (b : Nat) (v : Pv) (tmps : Array Value) (ht : tmps.getD 2 undef = .pointer (some ⟨b, 0, none⟩)) (hc : PCell w b v) : (results Tryz.f177 tmps).run Tryz.prog w = .ok (valPt v) w := by
  have ht' : tmps[2]?.getD undef = .pointer (some ⟨b, 0, none⟩) := by simpa [Array.getD_eq_getD_getElem?] using ht
  obtain ⟨h0, h1, h2⟩ := hc
  simp [results, Tryz.results177, go_sem, ht', h0, h1, h2, valPt]
set_option maxRecDepth 100000 in
set_option maxHeartbeats 8000000 in
theorem jpattern_any (p : Nat) (s : ByteArray) (A : Option Addr) (nn cn : Nat) (names : List (List UInt8)) (a d k k' f : Nat) (rest : List UInt8) (pat : Pat) (w : World)
    (HBr : Hid (∀ (f' a k k' : Nat) (pat : Pat) (rest : List UInt8) (W : World), f' < f → RS W p s A nn cn names a d k → a ≤ s.size → k ≤ 512 → branchP names f' d (s.data.toList.drop a) k [] = some (pat, rest, k') → Calls Tryz.prog 205 #[.pointer (some ⟨p, 0, none⟩)] W (RdPost W p s A nn cn names d pat rest k')))
    (h : RS w p s A nn cn names a d k) (ha : a ≤ s.size) (hs : s.size ≤ 1000000) (hk : k ≤ 512)
    (hP : patP names f d (s.data.toList.drop a) k = some (pat, rest, k')) :
    Calls Tryz.prog 177 #[.pointer (some ⟨p, 0, none⟩)] w (RdPost w p s A nn cn names d pat rest k') := by
  obtain ⟨i0, hi0, hz0, hz1, hz2⟩ := info_parts infoPatH
  have hpw := h.lt
  have HAw := Lib.hid (fun x (hx : A = some x) => (h.off x hx).2)
  obtain ⟨f', p1, l1, k1, rfl, hb1, ha1⟩ := patP_cases hP
  have hku := (parts_up names f').2.2.1 hb1
  have hw0 := h.below ((Below.refl w.heap.size w).alloc (Nat.le_refl _) (.cells #[.int .i64 0, .slice none 0 0, .slice none 0 0] 126))
  have hB0 : Blk (w.alloc (.cells #[.int .i64 0, .slice none 0 0, .slice none 0 0] 126)) w.heap.size 126 #[.int .i64 0, .slice none 0 0, .slice none 0 0] := Blk.new w _ _
  have HS := Lib.hid (fun x kk W (h : RS W p s A nn cn names x d kk) (hx : x ≤ s.size) => jsees_any p s A nn cn names x d kk W h hx hs)
  have HB1 := Lib.hid (HBr.out f' a k k1 p1 l1 _ (Nat.lt_succ_self f') hw0 ha hk hb1)
  have HA1 := Lib.hid ha1
  have hg0 : w.grownBy (w.alloc (.cells #[.int .i64 0, .slice none 0 0, .slice none 0 0] 126)) (some p) := only_alloc (only_refl w _) _
  clear hP h hb1 ha1 hw0
  go_enter Tryz.func177, Tryz.ntmps177
  go_wp2_with fail
  refine HB1.out.mono ?_
  rintro e w1 hq
  obtain ⟨v1, x1, rfl, hr1, hd1, hx1, hg1, hp1⟩ := hq
  obtain ⟨v0, ⟨A1, n1, c1'⟩, ⟨A2, n2, c2'⟩⟩ := v1
  have hB1 := hB0.grown hg1 (fun e => by injection e with e; omega)
  have hz1w := hB1.lt
  have hal : Below w1.heap.size w1 (w1.alloc (.cells #[.int .i64 (v0 : Int), .slice A1 n1 c1', .slice A2 n2 c2'] 126)) := (Below.refl w1.heap.size w1).alloc (Nat.le_refl _) _
  have hr2 := hr1.below hal
  have hB2 := hB1.below hal
  have hg2 := only_below (only_trans hg0 hg1) hal
  have ho2 : Own (w1.alloc (.cells #[.int .i64 (v0 : Int), .slice A1 n1 c1', .slice A2 n2 c2'] 126)) (w.heap.size + 1) 126 3 (some ⟨w1.heap.size, 0, none⟩) 1 1 ([(v0, (A1, n1, c1'), (A2, n2, c2'))].map encPt) := own_three (by omega)
  have hps2 : PatsX (w1.alloc (.cells #[.int .i64 (v0 : Int), .slice A1 n1 c1', .slice A2 n2 c2'] 126)) (OffX (w.heap.size + 1) (some ⟨w1.heap.size, 0, none⟩)) [p1] [(v0, (A1, n1, c1'), (A2, n2, c2'))] := by
    have h1 := PatX.below (hp1.keep (X' := OffX (w.heap.size + 1) (some ⟨w1.heap.size, 0, none⟩)) (KeepX.same (fun b h hb => ⟨by simp at h; omega, fun a ha e => by injection ha with ha; subst ha; simp only at e; omega⟩))) hal
    simp only [PatsX]
    exact ⟨_, [], rfl, h1, rfl⟩
  have HG2 : Hid (altsP names f' d (s.data.toList.drop x1) k1 [p1] = some (pat, rest, k')) := Lib.hid (by rw [hd1]; exact HA1.out)
  have hk1 := hku.2 hk
  clear HB1 HA1 hd1 hr1 hg1 hp1 hB1 hB0 hg0 hku
  simp only [valPt]
  go_wp2_with fail
  generalize w1.alloc (.cells #[.int .i64 (v0 : Int), .slice A1 n1 c1', .slice A2 n2 c2'] 126) = V at hr2 hB2 hg2 ho2 hps2 ⊢
  clear hal
  generalize w1.heap.size = g at ho2 hps2 ⊢
  go_loopw [3] (fun v3 wr => ∃ (x kk f0 : Nat) (acc0 : List Pat) (A0 : Option Addr) (n0 c0 : Nat) (vs : List Pv), v3 = .slice A0 n0 c0 ∧ f0 ≤ f' ∧ n0 ≤ kk + 1 ∧ 1 ≤ n0 ∧ kk ≤ 512 ∧ RS wr p s A nn cn names x d kk ∧ Hid (altsP names f0 d (s.data.toList.drop x) kk acc0 = some (pat, rest, k')) ∧ x ≤ s.size ∧ w.grownBy wr (some p) ∧ Blk wr w.heap.size 126 #[.int .i64 0, .slice none 0 0, .slice none 0 0] ∧ Own wr (w.heap.size + 1) 126 3 A0 n0 c0 (vs.map encPt) ∧ PatsX wr (OffX (w.heap.size + 1) A0) acc0 vs) (fun _ wr => 512 - partsOf wr p)
  case atStart => exact ⟨x1, k1, f', [p1], some ⟨g, 0, none⟩, 1, 1, [(v0, (A1, n1, c1'), (A2, n2, c2'))], rfl, Nat.le_refl _, by omega, by omega, hk1, hr2, HG2, hx1, hg2, hB2, ho2, hps2⟩
  case round =>
    clear hr2 HG2 hx1 hg2 hB2 ho2 hps2 hk1
    obtain ⟨x, kk, f0, acc0, A0, n0, c0, vs, rfl, hf0, hn0, hn1, hkk, hr, HG, hx, hg, hB, ho, hps⟩ := hrel
    have Hat := Lib.hid hr.partsOf
    have c5 := hr.c5
    obtain ⟨c, hc, hcs⟩ := altsP_cases2 HG.out
    have Hcs := Lib.hid hcs
    have h0 := HS.out x kk _ hr hx
    rw [hc] at h0
    have HS1 := Lib.hid h0
    clear h0 hc hcs HG
    go_wp2_with fail
    refine HS1.out.mono ?_
    rintro e w5 ⟨rfl, x5, hr5, hd5, hx5, hg5⟩
    have hB5 := hB.grown hg5 (fun e => by injection e with e; omega)
    have ho5 := ho.grown hg5 (fun a ha e => by have := (ho.lt a ha).1; injection e with e; omega)
    have hps5 := hps.keep (KeepX.grown hg5 (fun r hr h => by injection hr with hr; subst hr; have := h.1; omega))
    have hgg := only_trans hg hg5
    have Hd5 := Lib.hid hd5
    clear hr hB ho hps hg hg5 c5 HS1 hd5
    rcases Hcs.out with ⟨hne, hpe, hre, hke, hend⟩ | ⟨hce, hk5, r, f9, p9, l9, k9, hsk, hfe, hbr, hal9⟩
    · have t124 : ((c.toNat : Int) == 124) = false := by rw [beq_eq_false_iff_ne]; omega
      have c0' := hr5.c0
      have c1 := hr5.c1
      have c3 := hr5.c3
      have c5 := hr5.c5
      have Hend := Lib.hid hend
      have Hre := Lib.hid (hre)
      have Hpk := Lib.hid (And.intro hpe hke)
      clear Hcs hne hpe hre hke hend
      go_upto_region 6 with fail
      go_cut [71] from 35 to 71 (fun v wx => v = .bool false ∧ ∃ q, wx = w5.drewN q)
      case first =>
        rcases Hend.out with h1 | ⟨r, h1, h41, hd0⟩
        · have hxe : ¬ x5 < s.size := fun hlt => by
            obtain ⟨b', h2, _⟩ := byte_at s hlt
            have h3 := Hd5.out
            rw [← Hre.out, h1, h2] at h3
            cases h3
          go_quiet (fail)
          go_wp2_with fail
          go_meet
          exact ⟨rfl, nq, rfl⟩
        · have hlt : x5 < s.size := Nat.lt_of_not_le fun hle => by
            have h3 := Hd5.out
            rw [← Hre.out, h1, drop_end s (by omega)] at h3
            cases h3
          obtain ⟨b', h2, hidx⟩ := byte_at s hlt
          have hbc : b' = c := by
            have h3 := Hd5.out
            rw [← Hre.out, h1, h2] at h3
            injection h3
          subst hbc
          have t41 : ((b'.toNat : Int) == 41) = true := by rw [beq_iff_eq]; omega
          have td : decide (0 < d) = true := decide_eq_true hd0
          clear h2 h1
          go_quiet (fail)
          go_wp2_with fail
          go_meet
          exact ⟨rfl, nq, rfl⟩
      case rest =>
        obtain ⟨rfl, q, rfl⟩ := hcut
        have hr6 := hr5.drewN q
        have hB6 := hB5.drewN q
        have ho6 := ho5.drewN q
        have hps6 : PatsX (w5.drewN q) (OffX (w.heap.size + 1) A0) acc0 vs := hps5.below (below_refl_drewN w5 q)
        have hg6 := only_drewN hgg q
        clear hr5 hB5 ho5 hps5 hgg c0' c1 c3 c5 Hend t124
        generalize w5.drewN q = w6 at hr6 hB6 ho6 hps6 hg6 ⊢
        have hvl : vs.length = n0 := by have := ho6.len; simpa using this
        have hal := hps6.len
        have z0 := hB6.cell 0
        have z1 := hB6.cell 1
        have z2 := hB6.cell 2
        simp only [List.getElem?_toArray, List.getElem?_cons_succ, List.getElem?_cons_zero] at z0 z1 z2
        have g0 := hB6.frozen 0
        have g1 := hB6.frozen 1
        have g2 := hB6.frozen 2
        by_cases h1n : n0 = 1
        · subst h1n
          obtain ⟨v, rfl⟩ : ∃ v, vs = [v] := List.length_eq_one_iff.1 hvl
          obtain ⟨p0, rfl⟩ : ∃ v, acc0 = [v] := List.length_eq_one_iff.1 (by omega)
          obtain ⟨v', hv', hpv⟩ := hps6.at_ (k := 0) rfl
          injection hv' with hv'
          subst hv'
          obtain ⟨b0, off0, eA, e0, e1, e2⟩ := (SlX.own ho6 (by decide) (X := fun b => w.heap.size + 1 ≤ b) (fun a ha => (ho6.lt a ha).1)).atPt (k := 0) rfl
          simp only at eA
          subst eA
          have HQ := Lib.hid (pt_end (B := w.heap.size + 1) v hB6 hr6 hpw HAw.out hg6 (by omega) (hpv.keep (KeepX.same (fun b h _ => h.1))))
          obtain ⟨v0, ⟨A1, n1, c1'⟩, ⟨A2, n2, c2'⟩⟩ := v
          simp only [Nat.zero_mul, Nat.add_zero] at e0 e1 e2
          go_wp2
          obtain ⟨q1, q2, q3, q4⟩ := HQ.out
          refine bodyPost_ret (res_pattern _ w.heap.size (v0, (A1, n1, c1'), (A2, n2, c2')) _ rfl (PCell.of_blk q1)) rfl ?_
          rw [Hpk.out.1, Hpk.out.2]
          exact ⟨_, _, rfl, q2, by rw [Hd5.out, Hre.out], hx5, q3, q4⟩
        · have t1 : ((n0 : Int) == 1) = false := by rw [beq_eq_false_iff_ne]; omega
          have HQ := Lib.hid (pt_end (B := w.heap.size + 1) (pat := .node 3 [] acc0) (3, (none, 0, 0), (A0, n0, c0)) hB6 hr6 hpw HAw.out hg6 (by omega) (by simp only [PatX]; exact ⟨trivial, SlX.nil_ _ _ _, vs, SlX.own ho6 (by decide) (fun a ha => (ho6.lt a ha).1), hps6.keep (KeepX.same (fun b h _ => h.1))⟩))
          go_wp2
          obtain ⟨q1, q2, q3, q4⟩ := HQ.out
          refine bodyPost_ret (res_pattern _ w.heap.size (3, (none, 0, 0), (A0, n0, c0)) _ rfl (PCell.of_blk q1)) rfl ?_
          rw [Hpk.out.1, Hpk.out.2, altOf_many (by omega)]
          exact ⟨_, _, rfl, q2, by rw [Hd5.out, Hre.out], hx5, q3, q4⟩
    · have t124 : ((c.toNat : Int) == 124) = true := by rw [beq_iff_eq]; omega
      have hys : x5 < s.size := Nat.lt_of_not_le fun hle => by
        have h1 := Hd5.out
        rw [drop_end s (by omega), hsk] at h1
        cases h1
      have hdr : s.data.toList.drop (x5 + 1) = r := by
        obtain ⟨b', h1, _⟩ := byte_at s hys
        have h2 := Hd5.out
        rw [h1, hsk] at h2
        injection h2
      have Hbr : Hid (branchP names f9 d (s.data.toList.drop (x5 + 1)) (kk + 1) [] = some (p9, l9, k9)) := Lib.hid (by rw [hdr]; exact hbr)
      have Hal := Lib.hid hal9
      have hku := (parts_up names f9).2.2.1 hbr
      have HC := Lib.hid (jcounts_any p s A nn cn names x5 d kk (x5 : Int) w5 hr5 hk5)
      have c1 := hr5.c1
      clear hal9 hbr hsk hdr Hd5 Hcs
      go_wp2_with fail
      refine HC.out.mono ?_
      rintro e w6 ⟨rfl, hr6, hg6⟩
      have hB6 := hB5.grown hg6 (fun e => by injection e with e; omega)
      have ho6 := ho5.grown hg6 (fun a ha e => by have := (ho5.lt a ha).1; injection e with e; omega)
      have hps6 := hps5.keep (KeepX.grown hg6 (fun r hr h => by injection hr with hr; subst hr; have := h.1; omega))
      have hgg6 := only_trans hgg hg6
      clear hr5 hB5 ho5 hps5 hgg hg6 c1 HC
      have c1 := hr6.c1
      have f1 := hr6.f 1
      have hr7 := hr6.setAt (x5 + 1)
      have ez : ((x5 + 1 : Nat) : Int) = (x5 : Int) + 1 := by omega
      rw [ez] at hr7
      have hB7 := hB6.far (p := ⟨p, 1, none⟩) (by simp; omega) (.int .i64 ((x5 : Int) + 1))
      have ho7 := ho6.setCell (p := ⟨p, 1, none⟩) (fun a ha e => by have := (ho6.lt a ha).1; simp only at e; omega) (.int .i64 ((x5 : Int) + 1))
      have hk7 : w6.grownBy (w6.setCell ⟨p, 1, none⟩ (.int .i64 ((x5 : Int) + 1))) (some p) := only_setCell (only_refl _ _) (p := ⟨p, 1, none⟩) (.inl rfl) _
      have hps7 := hps6.keep (KeepX.grown hk7 (fun r hr h => by injection hr with hr; subst hr; have := h.1; omega))
      have hg7 := only_trans hgg6 hk7
      clear hr6 hB6 ho6 hps6 hgg6 hk7 ez
      go_upto_region 5 with fail
      clear c1 f1
      generalize w6.setCell ⟨p, 1, none⟩ (.int .i64 ((x5 : Int) + 1)) = V at hr7 hB7 ho7 hps7 hg7 ⊢
      have HB9 := Lib.hid (HBr.out f9 (x5 + 1) (kk + 1) k9 p9 l9 V (by omega) hr7 (by omega) (by omega) Hbr.out)
      have hVz := hB7.lt
      have hAV : ∀ a, A0 = some a → a.block < V.heap.size := fun a ha => (ho7.lt a ha).2
      go_wp2_with fail
      refine HB9.out.mono ?_
      rintro e w9 hq
      obtain ⟨v9, x9, rfl, hr9, hd9', hx9, hg9, hp9⟩ := hq
      have hB9 := hB7.grown hg9 (fun e => by injection e with e; omega)
      have ho9 := ho7.grown hg9 (fun a ha e => by have := (ho7.lt a ha).1; injection e with e; omega)
      have hps9 := hps7.keep (KeepX.grown hg9 (fun r hr h => by injection hr with hr; subst hr; have := h.1; omega))
      have hgg9 := only_trans hg7 hg9
      have hpp : PatX w9 (OffX (w.heap.size + 1) A0) p9 v9 := hp9.keep (KeepX.same (fun b h _ => ⟨by omega, fun a ha e => by have := hAV a ha; omega⟩))
      have HG9 : Hid (altsP names f9 d (s.data.toList.drop x9) k9 (acc0 ++ [p9]) = some (pat, rest, k')) := Lib.hid (by rw [hd9']; exact Hal.out)
      clear hB7 ho7 hps7 hg7 hg9 hp9 HB9 Hal hd9' hr7
      obtain ⟨v0, ⟨A1, n1, c1'⟩, ⟨A2, n2, c2'⟩⟩ := v9
      simp only [valPt]
      have T1 := ho9.alloc (.cells #[.int .i64 (v0 : Int), .slice A1 n1 c1', .slice A2 n2 c2'] 126)
      have T3 : w.heap.size + 1 ≤ (w9.alloc (.cells #[.int .i64 (v0 : Int), .slice A1 n1 c1', .slice A2 n2 c2'] 126)).heap.size := by have := hB9.lt; simp; omega
      have T2 : (n0 + 1) * 56 ≤ 140737488355328 := by omega
      have T4 : ∀ y ∈ [encPt (v0, (A1, n1, c1'), (A2, n2, c2'))], y.length = 3 ∧ ∀ u ∈ y, u.oneCell' = true := encPt_ok [(v0, (A1, n1, c1'), (A2, n2, c2'))]
      have T5 : Rd (w9.alloc (.cells #[.int .i64 (v0 : Int), .slice A1 n1 c1', .slice A2 n2 c2'] 126)) 3 (some ⟨w9.heap.size, 0, none⟩) [encPt (v0, (A1, n1, c1'), (A2, n2, c2'))] := Rd.newAt (by simp) rfl
      have T6 : n0 + 1 ≤ maxLen := by unfold maxLen; omega
      go_wp2_with (at_builtin; refine wpList_app rfl (.tmp 30) (.tmp 33) _ rfl (w.heap.size + 1) 126 i0 _ 3 56 Tryz.underlying124 hi0 hz0 hz1 hz2 rfl (by omega) A0 n0 c0 (vs.map encPt) rfl T1 _ 1 1 [encPt (v0, (A1, n1, c1'), (A2, n2, c2'))] rfl rfl T5 T4 T6 T2 T3 ?_; intro A3 c3 w10 ho10 hg10 hA10)
      have hb10 : Below w.heap.size w9 w10 := below_app ((Below.refl w.heap.size w9).alloc (by have := hB9.lt; omega) _) hg10 (by have := hB9.lt; simp; omega) (fun a ha => by have := (ho9.lt a ha).1; omega)
      have hr10 := hr9.belowB hb10 hpw HAw.out
      have hg10' : w.grownBy w10 (some p) := ⟨hb10.os.trans hgg9.os, hb10.tape.trans hgg9.tape, hb10.output.trans hgg9.output, Nat.le_trans hgg9.size hb10.size, fun i hi hne => (hb10.block i hi).trans (hgg9.block i hi hne)⟩
      have hNE : some w.heap.size ≠ A0.map (·.block) := fun e => by
        cases hA1 : A0 with
        | none => rw [hA1] at e; cases e
        | some a => rw [hA1] at e; injection e with e; have e2 : w.heap.size = a.block := e; have := (ho9.lt a hA1).1; omega
      have hB10 := (hB9.alloc (.cells #[.int .i64 (v0 : Int), .slice A1 n1 c1', .slice A2 n2 c2'] 126)).grown hg10 hNE
      have hkx : KeepX (OffX (w.heap.size + 1) A0) (OffX (w.heap.size + 1) A3) w9 w10 := (KeepX.below ((Below.refl w9.heap.size w9).alloc (Nat.le_refl _) (.cells #[.int .i64 (v0 : Int), .slice A1 n1 c1', .slice A2 n2 c2'] 126))).trans ⟨hg10.size, fun b hb hl => hg10.block b hl (fun e => by
          cases hA1 : A0 with
          | none => rw [hA1] at e; cases e
          | some a => rw [hA1] at e; injection e with e; exact hb.2 a hA1 e), fun b hb hl => ⟨hb.1, fun a ha e => by
          rcases hA10 with h1 | h1
          · exact hb.2 a (by rw [← h1]; exact ha) e
          · rw [h1] at ha
            injection ha with ha
            subst ha
            simp at hl e
            omega⟩⟩
      have hps10 := PatsX.snoc (hpp.keep hkx) (hps9.keep hkx)
      have hk9 := hku.1
      have hk9' := hku.2 (by omega)
      refine ⟨⟨x9, k9, f9, acc0 ++ [p9], A3, n0 + 1, c3, vs ++ [(v0, (A1, n1, c1'), (A2, n2, c2'))], rfl, by omega, by omega, by omega, hk9', hr10, HG9, hx9, hg10', hB10, by rw [List.map_append]; exact ho10, hps10⟩, ?_⟩
      rw [hr10.partsOf, Hat.out]; omega
theorem jpat_all (p : Nat) (s : ByteArray) (A : Option Addr) (nn cn : Nat) (names : List (List UInt8)) (hs : s.size ≤ 1000000) (hnz : nn ≤ 1000000) : ∀ (z f a d k k' : Nat) (pat : Pat) (rest : List UInt8) (w : World), f ≤ z → RS w p s A nn cn names a d k → a ≤ s.size → d ≤ 32 → k ≤ 512 →
    patP names f d (s.data.toList.drop a) k = some (pat, rest, k') → Calls Tryz.prog 177 #[.pointer (some ⟨p, 0, none⟩)] w (RdPost w p s A nn cn names d pat rest k')
  | 0, f, a, d, k, k', pat, rest, w, hf, _, _, _, _, hP => by
    obtain ⟨f', _, _, _, h, _⟩ := patP_cases hP
    omega
  | z + 1, f, a, d, k, k', pat, rest, w, hf, hr, ha, hd, hk, hP =>
    jpattern_any p s A nn cn names a d k k' f rest pat w (Lib.hid fun f1 a1 k1 k1' pat1 rest1 W hf1 hr1 ha1 hk1 hP1 =>
      jbranch_any p s A nn cn names a1 d k1 k1' f1 rest1 pat1 W (Lib.hid fun f2 a2 k2 k2' c2 r2 pat2 rest2 W2 hf2 hr2 ha2 hsk2 hP2 => by
        cases f2 with
        | zero => rw [atomP] at hP2; cases hP2
        | succ f2 => exact jatom_any p s A nn cn names a2 d k2 k2' f2 c2 r2 rest2 pat2 W2 (Lib.hid fun d3 a3 k3 k3' pat3 rest3 W3 hr3 ha3 hd3 hk3 hP3 => jpat_all p s A nn cn names hs hnz z f2 a3 d3 k3 k3' pat3 rest3 W3 (by omega) hr3 ha3 hd3 hk3 hP3) hr2 ha2 hs hnz hsk2 hP2)
      hr1 ha1 hs hk1 hP1) hr ha hs hk hP
end Go.Proofs.YtdnkignhenkamaaGreatDoor

/- -/
namespace Go.Proofs.YtdnkignhenkamaaGreatDoor
open Go.RowKit
theorem nms_len {ns : List (List UInt8)} (h : nmsOk ns = true) : ns.length ≤ 64 := by
  unfold nmsOk at h
  simp only [Bool.and_eq_true, decide_eq_true_iff] at h
  exact h.1.1
theorem patOf_some {ns : List (List UInt8)} {l : List UInt8} {pat : Pat} (h : patOf ns l = some pat) : l.length ≤ 4096 ∧ ∃ rest k', patP ns (4 * l.length + 8) 0 l 0 = some (pat, rest, k') := by
  unfold patOf at h
  split at h
  · cases h
  · rename_i hl
    split at h
    · cases h
    · rename_i p rest k' hp
      injection h with h
      subst h
      exact ⟨by omega, rest, k', hp⟩
set_option maxRecDepth 100000 in
theorem res_parse5 (w : World) (b : Nat) (v : Pv) (tmps : Array Value) (h4 : tmps.getD 4 undef = .pointer (some ⟨b, 0, none⟩)) (h5 : tmps.getD 5 undef = .int .i64 0) (h6 : tmps.getD 6 undef = .int .i64 0) (hc : PCell w b v) : (results Tryz.f146 tmps).run Tryz.prog w = .ok (.tuple #[valPt v, .int .i64 0, .int .i64 0]) w := by
  have h4' : tmps[4]?.getD undef = .pointer (some ⟨b, 0, none⟩) := by simpa [Array.getD_eq_getD_getElem?] using h4
  have h5' : tmps[5]?.getD undef = .int .i64 0 := by simpa [Array.getD_eq_getD_getElem?] using h5
  have h6' : tmps[6]?.getD undef = .int .i64 0 := by simpa [Array.getD_eq_getD_getElem?] using h6
  obtain ⟨h0, h1, h2⟩ := hc
  simp [results, Tryz.results146, go_sem, h4', h5', h6', h0, h1, h2, valPt]
set_option maxRecDepth 100000 in
set_option maxHeartbeats 8000000 in
theorem jParse_any (s : ByteArray) (A : Option Addr) (nn cn : Nat) (names : List (List UInt8)) (pat : Pat) (w : World) (hA : Rd w 1 A (names.map encNm)) (hAl : ∀ x, A = some x → x.block < w.heap.size) (hl : names.length = nn) (hn : nmsOk names = true) (hP : patOf names s.data.toList = some pat) :
    Calls Tryz.prog 146 #[.string s, .slice A nn cn] w fun e w' => ∃ v, e = .returned (.tuple #[valPt v, .int .i64 0, .int .i64 0]) ∧ PatX w' (fun b => w.heap.size ≤ b) pat v ∧ Below w.heap.size w w' := by
  obtain ⟨hsz, rest, k', hp⟩ := patOf_some hP
  generalize 4 * s.data.toList.length + 8 = F at hp
  rw [size_data] at hsz
  have hnz := nms_len hn
  rw [hl] at hnz
  have hs6 : s.size ≤ 1000000 := by omega
  have hn6 : nn ≤ 1000000 := by omega
  have HN := Lib.hid (jNames_ok A nn cn names (w.alloc (.cells #[.int .i64 0, .slice none 0 0, .slice none 0 0] 126)) (hA.alloc _) hl hn)
  have HP := Lib.hid (fun q W (h : RS W q s A nn cn names 0 0 0) => jpat_all q s A nn cn names hs6 hn6 F F 0 0 0 k' pat rest W (Nat.le_refl F) h (Nat.zero_le _) (Nat.zero_le _) (Nat.zero_le _) hp)
  have HA := Lib.hid hA
  have HAl := Lib.hid hAl
  have Hl := Lib.hid hl
  have h4096 : ¬ 4096 < s.size := by omega
  clear hA hAl hl hn hP hp hsz hs6 hn6
  go_enter Tryz.func146, Tryz.ntmps146
  go_wp2_with fail
  refine HN.out.mono ?_
  rintro e w1 ⟨rfl, q, rfl⟩
  have hB1 : Blk ((w.alloc (.cells #[.int .i64 0, .slice none 0 0, .slice none 0 0] 126)).drewN q) w.heap.size 126 #[.int .i64 0, .slice none 0 0, .slice none 0 0] := (Blk.new w _ _).drewN q
  have hb1 : Below w.heap.size w ((w.alloc (.cells #[.int .i64 0, .slice none 0 0, .slice none 0 0] 126)).drewN q) := below_drewN ((Below.refl w.heap.size w).alloc (Nat.le_refl _) _) q
  have hz1 : ((w.alloc (.cells #[.int .i64 0, .slice none 0 0, .slice none 0 0] 126)).drewN q).heap.size = w.heap.size + 1 := by simp
  generalize (w.alloc (.cells #[.int .i64 0, .slice none 0 0, .slice none 0 0] 126)).drewN q = V at hB1 hb1 hz1 ⊢
  have hR2 : RS (V.alloc (.cells #[.string s, .int .i64 0, .slice A nn cn, .int .i64 0, .int .i64 0, .int .i64 0, .int .i64 0] 184)) V.heap.size s A nn cn names 0 0 0 := ⟨Blk.new V _ _, (HA.out.belowB hb1 HAl.out).alloc _, Hl.out, fun x hx => by have := HAl.out x hx; constructor <;> (simp; omega)⟩
  have hB2 := hB1.alloc (.cells #[.string s, .int .i64 0, .slice A nn cn, .int .i64 0, .int .i64 0, .int .i64 0, .int .i64 0] 184)
  have hb2 := hb1.alloc (by omega) (.cells #[.string s, .int .i64 0, .slice A nn cn, .int .i64 0, .int .i64 0, .int .i64 0, .int .i64 0] 184)
  have hz2 : (V.alloc (.cells #[.string s, .int .i64 0, .slice A nn cn, .int .i64 0, .int .i64 0, .int .i64 0, .int .i64 0] 184)).heap.size = w.heap.size + 2 := by simp; omega
  rw [hz1] at hR2
  have HP2 := Lib.hid (HP.out _ _ hR2)
  clear HN HP hB1 hb1 hR2
  go_wp2_with fail
  refine HP2.out.mono ?_
  rintro e w5 hq
  obtain ⟨v, x5, rfl, hr5, _, _, hg5, hp5⟩ := hq
  have hB5 := hB2.grown hg5 (fun e => by injection e with e; omega)
  have hb5 : Below w.heap.size w w5 := hb2.trans (below_only hg5 (by omega) (by omega))
  have c5 := hr5.c5
  obtain ⟨v0, ⟨A1, n1, c1'⟩, ⟨A2, n2, c2'⟩⟩ := v
  simp only [valPt]
  have hal : Below w5.heap.size w5 (w5.alloc (.cells #[.int .i64 (v0 : Int), .slice A1 n1 c1', .slice A2 n2 c2'] 126)) := (Below.refl w5.heap.size w5).alloc (Nat.le_refl _) _
  have hz5 := hg5.size
  have hB6 := hB5.below hal
  have hp6 : PatX (w5.alloc (.cells #[.int .i64 (v0 : Int), .slice A1 n1 c1', .slice A2 n2 c2'] 126)) (fun b => w.heap.size + 1 ≤ b) pat (v0, (A1, n1, c1'), (A2, n2, c2')) := (hp5.keep (KeepX.same (fun b h _ => by omega))).below hal
  have hb6 : Below w.heap.size w (w5.alloc (.cells #[.int .i64 (v0 : Int), .slice A1 n1 c1', .slice A2 n2 c2'] 126)) := hb5.alloc (by omega) _
  have hr6 := hr5.below hal
  have hN6 : Blk (w5.alloc (.cells #[.int .i64 (v0 : Int), .slice A1 n1 c1', .slice A2 n2 c2'] 126)) w5.heap.size 126 #[.int .i64 (v0 : Int), .slice A1 n1 c1', .slice A2 n2 c2'] := Blk.new _ _ _
  clear hB5 hp5 hb5 hr5 hB2 hb2 hg5 c5 HP2
  go_upto_region 7 with fail
  generalize w5.alloc (.cells #[.int .i64 (v0 : Int), .slice A1 n1 c1', .slice A2 n2 c2'] 126) = U at hB6 hp6 hb6 hr6 hN6 ⊢
  generalize w5.heap.size = g at hN6 ⊢
  clear hal
  have c5 := hr6.c5
  have z0 := hB6.cell 0
  have z1 := hB6.cell 1
  have z2 := hB6.cell 2
  have m0 := hN6.cell 0
  have m1 := hN6.cell 1
  have m2 := hN6.cell 2
  simp only [List.getElem?_toArray, List.getElem?_cons_succ, List.getElem?_cons_zero] at z0 z1 z2 m0 m1 m2
  have g0 := hB6.frozen 0
  have g1 := hB6.frozen 1
  have g2 := hB6.frozen 2
  have hf := ((hB6.set_ 0 (.int .i64 (v0 : Int))).set_ 1 (.slice A1 n1 c1')).set_ 2 (.slice A2 n2 c2')
  have hg8 : U.grownBy (((U.setCell ⟨w.heap.size, 0, none⟩ (.int .i64 (v0 : Int))).setCell ⟨w.heap.size, 1, none⟩ (.slice A1 n1 c1')).setCell ⟨w.heap.size, 2, none⟩ (.slice A2 n2 c2')) (some w.heap.size) := only_setCell (only_setCell (only_setCell (only_refl _ _) (p := ⟨w.heap.size, 0, none⟩) (.inl rfl) _) (p := ⟨w.heap.size, 1, none⟩) (.inl rfl) _) (p := ⟨w.heap.size, 2, none⟩) (.inl rfl) _
  have HF := Lib.hid hf
  have HX := Lib.hid (hp6.keep ((KeepX.grown hg8 (fun r hr h => by injection hr with hr; subst hr; omega)).trans (KeepX.same (X' := fun b => w.heap.size ≤ b) (fun b h _ => by omega))))
  have HB := Lib.hid (hb6.trans (below_only hg8 (by have := hB6.lt; omega) (Nat.le_refl _)))
  clear hf hg8 hp6 hb6 hr6 hB6 hN6
  go_wp2
  have hf := HF.out
  simp only [List.setIfInBounds_toArray, List.set_cons_zero, List.set_cons_succ] at hf
  refine bodyPost_ret (res_parse5 _ w.heap.size (v0, (A1, n1, c1'), (A2, n2, c2')) _ rfl rfl rfl (PCell.of_blk hf)) rfl ?_
  exact ⟨_, rfl, HX.out, HB.out⟩
end Go.Proofs.YtdnkignhenkamaaGreatDoor

/- -/
namespace Go.Proofs.YtdnkignhenkamaaGreatDoor
open Go.RowKit
theorem ruleLine_cases {ns : List (List UInt8)} {x y : RsP} {l : List UInt8} (h : ruleLine ns x l = some y) : (plainB l = [] ∧ y = x) ∨
    (plainB l ≠ [] ∧ ∃ a c b, plainB l = a ++ c :: b ∧ (∀ z ∈ a, pSign z = false) ∧ pSign c = true ∧ (∀ z ∈ b, pSign z = false) ∧ x.rested = false ∧
      ((trimB a = restB ∧ trimB b = [] ∧ y = { x with rest := decide (c.toNat = 47), rested := true }) ∨
       (trimB a ≠ restB ∧ x.rules.length < 64 ∧ ∃ p q, patOf ns (if (trimB a).head? == some 94 then (trimB a).drop 1 else trimB a) = some p ∧ patOf ns (if (trimB b).getLast? == some 36 then (trimB b).dropLast else trimB b) = some q ∧
         y = { x with rules := x.rules ++ [⟨decide (c.toNat = 47), (trimB a).head? == some 94, (trimB b).getLast? == some 36, p, q⟩] }))) := by
  unfold ruleLine at h
  split at h
  · rename_i hp
    injection h with h
    exact .inl ⟨hp, h.symm⟩
  · rename_i h0 t hp
    rw [hp]
    refine .inr ⟨by simp, ?_⟩
    split at h
    · cases h
    · rename_i a cut b hs
      obtain ⟨c, e, h1, h2, h3, h4⟩ := signP_some hs
      split at h
      · cases h
      · rename_i hr
        refine ⟨a, c, b, e, h1, h2, h3, by simpa using hr, ?_⟩
        split at h
        · rename_i hrest
          split at h
          · rename_i hb
            injection h with h
            exact .inl ⟨by simpa using hrest, by simpa using hb, by rw [← h, h4]⟩
          · cases h
        · rename_i hrest
          split at h
          · cases h
          · rename_i hz
            split at h
            · rename_i p q hp hq
              injection h with h
              exact .inr ⟨by simpa using hrest, by omega, p, q, hp, hq, by rw [← h, h4]⟩
            · cases h
structure RR (w : World) (p B : Nat) (A : Option Addr) (nn cn : Nat) (names : List (List UInt8)) (rules : List RuleP) (v : Sv) (rest rested : Bool) : Prop where
  blk : Blk w p 122 #[.slice A nn cn, .slice v.1 v.2.1 v.2.2, .bool rest, .bool rested]
  nm : Rd w 1 A (names.map encNm)
  len : names.length = nn
  off : ∀ x, A = some x → x.block < p
  pb : p < B
  bz : B ≤ w.heap.size
  ex : ∃ vs : List Ruv, Own w B 128 9 v.1 v.2.1 v.2.2 (vs.map encRul) ∧ vs.length = rules.length ∧ ∀ (i : Nat) (r : RuleP) (u : Ruv), rules[i]? = some r → vs[i]? = some u → RuX w (OffX B v.1) r u
theorem RR.below {w w' : World} {p B : Nat} {A : Option Addr} {nn cn : Nat} {names : List (List UInt8)} {rules : List RuleP} {v : Sv} {rest rested : Bool} (h : RR w p B A nn cn names rules v rest rested) (hb : Below w.heap.size w w') : RR w' p B A nn cn names rules v rest rested := by
  obtain ⟨vs, h1, h2, h3⟩ := h.ex
  exact ⟨h.blk.below hb, h.nm.below hb, h.len, h.off, h.pb, Nat.le_trans h.bz hb.size, vs, h1.below hb, h2, fun i r u hr hu => (h3 i r u hr hu).below hb⟩
theorem RR.below' {w w' : World} {p B : Nat} {A : Option Addr} {nn cn : Nat} {names : List (List UInt8)} {rules : List RuleP} {v : Sv} {rest rested : Bool} (h : RR w p B A nn cn names rules v rest rested) (hb : Below w.heap.size w w') : RR w' p B A nn cn names rules v rest rested := h.below hb
theorem infoRule : (Tryz.prog.info? 128).map (fun i => (i.zero, i.size, i.bytes)) = some (some (.agg #[.bool false, .bool false, .bool false, .int .i64 0, .slice none 0 0, .slice none 0 0, .int .i64 0, .slice none 0 0, .slice none 0 0]), 9, 120) := by kernel_rfl
theorem otrim_B (l : List UInt8) (w : World) (hL : l.length ≤ 1000000) : Calls Tryz.prog 145 #[.string (bytesOf l)] w fun e w' => e = .returned (.string (bytesOf (trimB l))) ∧ w = w' := by rw [trimB_eq]; exact otrim_any l w hL
theorem trimB_len (l : List UInt8) : (trimB l).length ≤ l.length := by
  unfold trimB
  rw [List.length_reverse]
  refine Nat.le_trans (List.dropWhile_suffix _).length_le ?_
  rw [List.length_reverse]
  exact (List.dropWhile_suffix _).length_le
theorem plainB_len (l : List UInt8) : (plainB l).length ≤ l.length := by
  unfold plainB
  exact Nat.le_trans (trimB_len _) (List.takeWhile_prefix _).length_le
theorem emptyB_of (l : List UInt8) : (bytesOf l).toList.isEmpty = l.isEmpty := by rw [ByteArray.toList_eq, bytesOf_list]
theorem rest_of (l : List UInt8) : ((bytesOf l).toList == [114, 101, 115, 116]) = (l == restB) := by rw [ByteArray.toList_eq, bytesOf_list]; rfl
theorem cell_alloc9 {w : World} {a : Addr} {u : Value} (h : w.cell? a = some u) (o : Obj) : (w.alloc o).cell? a = some u := cell_keep h ((Below.refl _ _).alloc (Nat.le_refl _) o)
theorem encRul_ok (v : Ruv) : ∀ y ∈ [encRul v], y.length = 9 ∧ ∀ u ∈ y, u.oneCell' = true := fun y hy => by
  simp only [List.mem_singleton] at hy
  subst hy
  refine ⟨rfl, fun u hu => ?_⟩
  simp only [encRul, encPt, List.cons_append, List.nil_append, List.mem_cons, List.not_mem_nil, or_false] at hu
  rcases hu with rfl | rfl | rfl | rfl | rfl | rfl | rfl | rfl | rfl <;> rfl
def LnP (w : World) (p B : Nat) (A : Option Addr) (nn cn : Nat) (names : List (List UInt8)) (rules : List RuleP) (rest rested : Bool) (w' : World) : Prop := ∃ v', RR w' p B A nn cn names rules v' rest rested ∧ Below p w w' ∧ ∀ i, i < B → i ≠ p → w'.heap[i]? = w.heap[i]?
set_option maxRecDepth 100000 in
set_option maxHeartbeats 8000000 in
theorem oline_any (L : List UInt8) (p B : Nat) (A : Option Addr) (nn cn : Nat) (names : List (List UInt8)) (x y : RsP) (v : Sv) (w : World) (h : RR w p B A nn cn names x.rules v x.rest x.rested) (hn : nmsOk names = true) (hL : L.length ≤ 16384) (hP : ruleLine names x L = some y) :
    Calls Tryz.prog 115 #[.pointer (some ⟨p, 0, none⟩), .string (bytesOf L)] w fun e w' => e = .returned (.int .i64 0) ∧ LnP w p B A nn cn names y.rules y.rest y.rested w' := by
  have HPl := Lib.hid (oplain_any L w (by omega))
  have hMz := Nat.le_trans (plainB_len L) hL
  have HR := Lib.hid h
  have hpw := h.blk.lt
  rcases ruleLine_cases hP with ⟨h0, rfl⟩ | ⟨h0, a, c, b, hM, s1, s2, s3, hrd, hcs⟩
  · have hem : (bytesOf (plainB L)).toList.isEmpty = true := by rw [emptyB_of, h0]; rfl
    clear h hP h0
    go_enter Tryz.func115, Tryz.ntmps115
    go_wp2_with fail
    refine HPl.out.mono ?_
    rintro e w2 ⟨rfl, rfl⟩
    go_wp2
    go_ret
    exact ⟨rfl, v, HR.out, Below.refl _ _, fun _ _ _ => rfl⟩
  have hem : (bytesOf (plainB L)).toList.isEmpty = false := by rw [emptyB_of]; cases hq : plainB L with | nil => exact absurd hq h0 | cons _ _ => rfl
  have HSp := Lib.hid (osplit_ok a b c w (by rw [← hM]; omega) s1 s2 s3)
  rw [← hM] at HSp
  have hal : a.length < (plainB L).length := by rw [hM]; simp
  obtain ⟨x0, hx0, hidx⟩ := byte_of (plainB L) hal
  have hx0c : x0 = c := by
    rw [hM, List.getElem?_append_right (Nat.le_refl _), Nat.sub_self] at hx0
    simpa using hx0.symm
  subst hx0c
  obtain ⟨cut, Hcut⟩ : ∃ q, Hid (decide (x0.toNat = 47) = q) := ⟨_, Lib.hid rfl⟩
  have e47 : ((x0.toNat : Int) == 47) = cut := by rw [← Hcut.out, Bool.eq_iff_iff, beq_iff_eq, decide_eq_true_iff]; omega
  rw [Hcut.out] at hcs
  have HT := Lib.hid (fun i j W => show Calls Tryz.prog 145 #[.string ((bytesOf (plainB L)).extract i j)] W fun e w' => e = .returned (.string (bytesOf (trimB (((plainB L).drop i).take (j - i))))) ∧ W = w' by
    rw [ext_bytes2]; exact otrim_B _ W (by rw [List.length_take, List.length_drop]; omega))
  have e1 : (((plainB L).drop 0).take (a.length - 0)) = a := by rw [hM]; simp
  have e2 : ((plainB L).drop (a.length + 1)).take ((plainB L).length - (a.length + 1)) = b := by
    rw [hM, List.take_of_length_le (by simp; omega), List.drop_append]
    simp
  have E1 := Lib.hid e1
  have E2 := Lib.hid e2
  have Hcs := Lib.hid hcs
  have hsz : (bytesOf (plainB L)).size = (plainB L).length := bytesOf_size _
  have c0 := h.blk.cell 0
  have c1 := h.blk.cell 1
  have c3 := h.blk.cell 3
  simp only [List.getElem?_toArray, List.getElem?_cons_succ, List.getElem?_cons_zero] at c0 c1 c3
  rw [hrd] at c3
  have t0 : ¬ ((a.length : Int) < 0) := by omega
  have hal2 : (a.length : Int) + 1 ≤ ((plainB L).length : Int) := by omega
  have hal3 : (a.length : Int) < ((plainB L).length : Int) := by omega
  generalize plainB L = M at HPl hem HSp hidx HT hMz hsz hal hal2 hal3 E1 E2
  generalize a.length = m at HSp hidx hal hal2 hal3 t0 E1 E2
  clear h hP h0 hM s1 s2 s3 hx0 hcs e1 e2
  go_enter Tryz.func115, Tryz.ntmps115
  go_wp2_with fail
  refine HPl.out.mono ?_
  rintro e w2 ⟨rfl, rfl⟩
  go_wp2_with fail
  refine HSp.out.mono ?_
  rintro e w2 ⟨rfl, rfl⟩
  go_upto_region 8 with fail
  go_quiet ((go_at_call 145; exact quiet_left (HT.out _ _ _)))
  rw [E1.out, E2.out]
  go_upto_region 9 with fail
  have hlrz : (trimB a).length ≤ 16384 ∧ (trimB b).length ≤ 16384 := by
    have h1 := trimB_len a
    have h2 := trimB_len b
    have h3 : a.length ≤ M.length := by rw [← E1.out]; simp <;> omega
    have h4 : b.length ≤ M.length := by rw [← E2.out]; simp <;> omega
    omega
  generalize trimB a = l at Hcs hlrz ⊢
  generalize trimB b = r at Hcs hlrz ⊢
  have hbd := below_refl_drewN (B := w.heap.size) w nq
  have HR1 := Lib.hid (HR.out.below hbd)
  have hz1 : (w.drewN nq).heap.size = w.heap.size := rfl
  clear c0 c1 c3
  generalize w.drewN nq = w1 at hbd HR1 hz1 ⊢
  rcases Hcs.out with ⟨rfl, rfl, rfl⟩ | ⟨hlr, hlen, pl, pr, hpl, hpr, rfl⟩
  · have q1 : ((bytesOf restB).toList == [114, 101, 115, 116]) = true := by rw [rest_of]; exact beq_self_eq_true _
    have q2 : (bytesOf []).toList.isEmpty = true := by rw [emptyB_of]; rfl
    have c2 := HR1.out.blk.cell 2
    have c3 := HR1.out.blk.cell 3
    simp only [List.getElem?_toArray, List.getElem?_cons_succ, List.getElem?_cons_zero] at c2 c3
    have g2 := HR1.out.blk.frozen 2
    have g3 := HR1.out.blk.frozen 3
    clear Hcs
    go_wp2
    go_ret
    obtain ⟨vs, ho, hv, hru⟩ := HR1.out.ex
    have hk : w1.grownBy ((w1.setCell ⟨p, 2, none⟩ (.bool cut)).setCell ⟨p, 3, none⟩ (.bool true)) (some p) := only_setCell (only_setCell (only_refl _ _) (p := ⟨p, 2, none⟩) (.inl rfl) _) (p := ⟨p, 3, none⟩) (.inl rfl) _
    have hof := HR1.out.off
    refine ⟨rfl, v, ⟨?_, (HR1.out.nm.setCell (p := ⟨p, 2, none⟩) (fun x hx e => by have := hof x hx; simp only at e; omega) _).setCell (p := ⟨p, 3, none⟩) (fun x hx e => by have := hof x hx; simp only at e; omega) _, HR1.out.len, hof, HR1.out.pb, by have := HR1.out.bz; simpa using this, vs, (ho.setCell (p := ⟨p, 2, none⟩) (fun x hx e => by have := (ho.lt x hx).1; have := HR1.out.pb; simp only at e; omega) _).setCell (p := ⟨p, 3, none⟩) (fun x hx e => by have := (ho.lt x hx).1; have := HR1.out.pb; simp only at e; omega) _, hv, fun i r u hr hu => (hru i r u hr hu).keep (KeepX.grown hk (fun r hr h => by injection hr with hr; subst hr; have := h.1; have := HR1.out.pb; omega))⟩, ?_, fun i hi hne => (hk.block i (by have := HR1.out.bz; omega) (fun e => hne (by injection e))).trans (hbd.block i (by have := HR.out.bz; omega))⟩
    · have := (HR1.out.blk.set_ 2 (.bool cut)).set_ 3 (.bool true)
      simpa using this
    · exact (hbd.mono (by omega)).trans (below_only hk (by omega) (Nat.le_refl _))
  · have q1 : ((bytesOf l).toList == [114, 101, 115, 116]) = false := by rw [rest_of]; exact beq_eq_false_iff_ne.2 hlr
    have c1 := HR1.out.blk.cell 1
    simp only [List.getElem?_toArray, List.getElem?_cons_succ, List.getElem?_cons_zero] at c1
    have hvl : v.2.1 = x.rules.length := by
      obtain ⟨vs, ho, hv, _⟩ := HR1.out.ex
      have := ho.len
      rw [List.length_map] at this
      omega
    have hv64 : ¬ (64 ≤ v.2.1) := by omega
    have hv9 : v.2.1 ≤ 64 := by omega
    have Hvl := Lib.hid hvl
    clear hvl
    go_upto_region 18 with fail
    have hBr : Blk (w1.alloc (.cells #[.bool cut, .bool false, .bool false, .int .i64 0, .slice none 0 0, .slice none 0 0, .int .i64 0, .slice none 0 0, .slice none 0 0] 128)) w1.heap.size 128 #[.bool cut, .bool false, .bool false, .int .i64 0, .slice none 0 0, .slice none 0 0, .int .i64 0, .slice none 0 0, .slice none 0 0] := Blk.new _ _ _
    have hbV := hbd.alloc (by omega) (.cells #[.bool cut, .bool false, .bool false, .int .i64 0, .slice none 0 0, .slice none 0 0, .int .i64 0, .slice none 0 0, .slice none 0 0] 128)
    rw [hz1] at hBr
    generalize w1.alloc (.cells #[.bool cut, .bool false, .bool false, .int .i64 0, .slice none 0 0, .slice none 0 0, .int .i64 0, .slice none 0 0, .slice none 0 0] 128) = V at hBr hbV ⊢
    obtain ⟨st, Hst⟩ : ∃ q, Hid ((l.head? == some 94) = q) := ⟨_, Lib.hid rfl⟩
    obtain ⟨en, Hen⟩ : ∃ q, Hid ((r.getLast? == some 36) = q) := ⟨_, Lib.hid rfl⟩
    obtain ⟨l', Hl'⟩ : ∃ q, Hid ((if l.head? == some 94 then l.drop 1 else l) = q) := ⟨_, Lib.hid rfl⟩
    obtain ⟨r', Hr'⟩ : ∃ q, Hid ((if r.getLast? == some 36 then r.dropLast else r) = q) := ⟨_, Lib.hid rfl⟩
    rw [Hl'.out] at hpl
    rw [Hr'.out] at hpr
    have Hpl := Lib.hid hpl
    have Hpr := Lib.hid hpr
    have Hst2 := Lib.hid (show LnP w p B A nn cn names (x.rules ++ [⟨cut, st, en, pl, pr⟩]) x.rest x.rested = LnP w p B A nn cn names (x.rules ++ [⟨cut, l.head? == some 94, r.getLast? == some 36, pl, pr⟩]) x.rest x.rested by rw [Hst.out, Hen.out])
    have hlz : l.length ≤ 16384 := hlrz.1
    have hrz : r.length ≤ 16384 := hlrz.2
    have hlsz : (bytesOf l).size = l.length := bytesOf_size l
    have hrsz : (bytesOf r).size = r.length := bytesOf_size r
    clear hpl hpr Hcs hlr hz1 c1 hv64
    go_cut [70] from 64 to 69 (fun v wx => v = .bool st ∧ wx = V)
    case first =>
      cases l with
      | nil =>
        have q2 : (bytesOf []).toList.isEmpty = true := by rw [emptyB_of]; rfl
        have hst0 : st = false := by rw [← Hst.out]; rfl
        subst hst0
        go_wp2_with fail
        go_meet
        exact ⟨rfl, rfl⟩
      | cons b0 l0 =>
        have q2 : (bytesOf (b0 :: l0)).toList.isEmpty = false := by rw [emptyB_of]; rfl
        obtain ⟨b1, hb1, hidx⟩ := byte_of (b0 :: l0) (i := 0) (by simp)
        have hb10 : b1 = b0 := by simpa using hb1.symm
        subst hb10
        have hidx0 : ∀ W, (Instr.index 9 (.string (bytesOf (b1 :: l0))) (.int .i64 0)).run Tryz.prog W = .ok (.int .u8 (b1.toNat : Int)) W := hidx
        have hu : b1 = 94 ↔ b1.toNat = 94 := u8_eq (n := 94) (by omega)
        have e94 : ((b1.toNat : Int) == 94) = st := by
          rw [← Hst.out, Bool.eq_iff_iff, beq_iff_eq, List.head?_cons, beq_iff_eq, Option.some_inj, hu]; omega
        have hl1 : (0 : Int) < ((b1 :: l0).length : Int) := by simp <;> omega
        clear hu
        clear hb1 hidx
        go_wp2_with fail
        go_meet
        exact ⟨by first | rfl | rw [e94], rfl⟩
    case rest =>
      obtain ⟨rfl, rfl⟩ := hcut
      go_upto_if 70 with fail
      go_cut [7] from 71 to 73 (fun v wx => v = .string (bytesOf l') ∧ Blk wx w.heap.size 128 #[.bool cut, .bool st, .bool false, .int .i64 0, .slice none 0 0, .slice none 0 0, .int .i64 0, .slice none 0 0, .slice none 0 0] ∧ Below w.heap.size w wx)
      case first =>
        cases st with
        | true =>
          have hl0 : l' = l.drop 1 := by rw [← Hl'.out, Hst.out]; rfl
          have hl1 : (1 : Int) ≤ (l.length : Int) := by
            have h1 := Hst.out
            cases l with
            | nil => simp at h1
            | cons _ _ => simp <;> omega
          have HX := Lib.hid (ext_bytes l 1)
          rw [hlsz, ← hl0] at HX
          have c1 := hBr.cell 1
          simp only [List.getElem?_toArray, List.getElem?_cons_succ, List.getElem?_cons_zero] at c1
          have g1 := hBr.frozen 1
          have hB2 := hBr.set_ 1 (.bool true)
          simp only [List.setIfInBounds_toArray, List.set_cons_zero, List.set_cons_succ] at hB2
          have HB2 := Lib.hid hB2
          have hb2 := hbV.setCell (p := ⟨w.heap.size, 1, none⟩) (Nat.le_refl _) (.bool true)
          clear hB2 hl0
          go_wp2_with fail
          go_meet
          exact ⟨congrArg Value.string HX.out, HB2.out, hb2⟩
        | false =>
          have hl0 : l' = l := by rw [← Hl'.out, Hst.out]; rfl
          subst hl0
          go_wp2_with fail
          go_meet
          exact ⟨rfl, hBr, hbV⟩
      case rest =>
        clear hBr hbV Hl' Hst hlsz hlz
        obtain ⟨rfl, hBr, hbV⟩ := hcut
        generalize wc = V at hBr hbV ⊢
        go_upto_region 21 with fail
        go_cut [83] from 74 to 82 (fun v wx => v = .bool en ∧ wx = V)
        case first =>
          rcases List.eq_nil_or_concat r with rfl | ⟨r0, b0, rfl⟩
          · have q2 : (bytesOf []).toList.isEmpty = true := by rw [emptyB_of]; rfl
            have hst0 : en = false := by rw [← Hen.out]; rfl
            subst hst0
            go_wp2_with fail
            go_meet
            exact ⟨rfl, rfl⟩
          · rw [List.concat_eq_append] at *
            have q2 : (bytesOf (r0 ++ [b0])).toList.isEmpty = false := by rw [emptyB_of]; simp
            obtain ⟨b1, hb1, hidx⟩ := byte_of (r0 ++ [b0]) (i := r0.length) (by simp)
            have hb10 : b1 = b0 := by simpa using hb1.symm
            subst hb10
            have hrl : (r0 ++ [b1]).length = r0.length + 1 := by simp
            rw [hrl] at hrsz hrz
            have ei : ((r0.length : Int) + 1 - 1) = (r0.length : Int) := by omega
            have hidx2 : ∀ W, (Instr.index 9 (.string (bytesOf (r0 ++ [b1]))) (.int .i64 ((r0.length : Int) + 1 - 1))).run Tryz.prog W = .ok (.int .u8 (b1.toNat : Int)) W := by rw [ei]; exact hidx
            have hu : b1 = 36 ↔ b1.toNat = 36 := u8_eq (n := 36) (by omega)
            have e36 : ((b1.toNat : Int) == 36) = en := by
              have hgl : (r0 ++ [b1]).getLast? = some b1 := by simp
              rw [← Hen.out, hgl, Bool.eq_iff_iff, beq_iff_eq, beq_iff_eq, Option.some_inj, hu]; omega
            clear hu
            clear hb1
            go_wp2_with fail
            go_meet
            exact ⟨by first | rfl | rw [e36], rfl⟩
        case rest =>
          obtain ⟨rfl, rfl⟩ := hcut
          go_upto_if 83 with fail
          go_cut [8] from 84 to 89 (fun v wx => v = .string (bytesOf r') ∧ Blk wx w.heap.size 128 #[.bool cut, .bool st, .bool en, .int .i64 0, .slice none 0 0, .slice none 0 0, .int .i64 0, .slice none 0 0, .slice none 0 0] ∧ Below w.heap.size w wx)
          case first =>
            cases en with
            | true =>
              obtain ⟨r0, rfl⟩ : ∃ r0, r = r0 ++ [36] := by
                have h1 := Hen.out
                rcases List.eq_nil_or_concat r with rfl | ⟨r0, b0, rfl⟩
                · simp at h1
                · rw [List.concat_eq_append] at h1 ⊢
                  have : b0 = 36 := by simpa using h1
                  exact ⟨r0, by rw [this]⟩
              have hl0 : r' = r0 := by rw [← Hr'.out]; simp
              subst hl0
              have hrl : (r' ++ [36]).length = r'.length + 1 := by simp
              rw [hrl] at hrsz hrz
              have HX : Hid ((bytesOf (r' ++ [36])).extract 0 r'.length = bytesOf r') := Lib.hid (by rw [ext_bytes0]; simp)
              have c2 := hBr.cell 2
              simp only [List.getElem?_toArray, List.getElem?_cons_succ, List.getElem?_cons_zero] at c2
              have g2 := hBr.frozen 2
              have hB2 := hBr.set_ 2 (.bool true)
              simp only [List.setIfInBounds_toArray, List.set_cons_zero, List.set_cons_succ] at hB2
              have HB2 := Lib.hid hB2
              have hb2 := hbV.setCell (p := ⟨w.heap.size, 2, none⟩) (Nat.le_refl _) (.bool true)
              clear hB2
              go_wp2_with fail
              go_meet
              exact ⟨by first | exact congrArg Value.string HX.out | rfl, HB2.out, hb2⟩
            | false =>
              have hl0 : r' = r := by rw [← Hr'.out, Hen.out]; rfl
              subst hl0
              go_wp2_with fail
              go_meet
              exact ⟨rfl, hBr, hbV⟩
          case rest =>
            clear hBr hbV Hr' Hen hrsz hrz
            obtain ⟨rfl, hBr, hbV⟩ := hcut
            generalize wc = V at hBr hbV ⊢
            have hrr := HR.out.below' hbV
            have c0 := hrr.blk.cell 0
            simp only [List.getElem?_toArray, List.getElem?_cons_zero] at c0
            have HJ1 := Lib.hid (jParse_any (bytesOf l') A nn cn names pl V hrr.nm (fun x hx => by have := hrr.off x hx; have := hrr.blk.lt; omega) hrr.len hn (by rw [bytesOf_list]; exact Hpl.out))
            have hVz := hBr.lt
            go_wp2_with fail
            refine HJ1.out.mono ?_
            rintro e w3 ⟨v3, rfl, hp3, hb3⟩
            obtain ⟨k0, ⟨A1, n1, c1'⟩, ⟨A2, n2, c2'⟩⟩ := v3
            have hw3 := below_step hbV hb3 hbV.size
            have hB3 := hBr.below hb3
            have hal3 : Below w3.heap.size w3 (w3.alloc (.cells #[.int .i64 (k0 : Int), .slice A1 n1 c1', .slice A2 n2 c2'] 126)) := (Below.refl w3.heap.size w3).alloc (Nat.le_refl _) _
            have hN3 : Blk (w3.alloc (.cells #[.int .i64 (k0 : Int), .slice A1 n1 c1', .slice A2 n2 c2'] 126)) w3.heap.size 126 #[.int .i64 (k0 : Int), .slice A1 n1 c1', .slice A2 n2 c2'] := Blk.new _ _ _
            have hw4 := below_step hw3 hal3 hw3.size
            have hB4 := hB3.below hal3
            have hp4 := hp3.below hal3
            have hz3 := hb3.size
            simp only [valPt]
            clear HJ1 hp3 hB3 hbV hBr hrr c0 hb3 hw3
            go_upto_region 27 with fail
            generalize w3.alloc (.cells #[.int .i64 (k0 : Int), .slice A1 n1 c1', .slice A2 n2 c2'] 126) = V4 at hN3 hw4 hB4 hp4 ⊢
            clear hal3
            generalize w3.heap.size = g1 at hN3 hz3 ⊢
            generalize hZ : V.heap.size = Z at hVz hz3 hp4
            have hrr := HR.out.below' hw4
            have c0 := hrr.blk.cell 0
            simp only [List.getElem?_toArray, List.getElem?_cons_zero] at c0
            have HJ2 := Lib.hid (jParse_any (bytesOf r') A nn cn names pr V4 hrr.nm (fun x hx => by have := hrr.off x hx; have := hrr.blk.lt; omega) hrr.len hn (by rw [bytesOf_list]; exact Hpr.out))
            have hg1z := hN3.lt
            go_wp2_with fail
            refine HJ2.out.mono ?_
            rintro e w5 ⟨v5, rfl, hp5, hb5⟩
            obtain ⟨k3, ⟨A4, n4, c4'⟩, ⟨A5, n5, c5'⟩⟩ := v5
            have hw5 := below_step hw4 hb5 hw4.size
            have hB5 := hB4.below hb5
            have hN5 := hN3.below hb5
            have hp45 := hp4.below hb5
            have hal5 : Below w5.heap.size w5 (w5.alloc (.cells #[.int .i64 (k3 : Int), .slice A4 n4 c4', .slice A5 n5 c5'] 126)) := (Below.refl w5.heap.size w5).alloc (Nat.le_refl _) _
            have hM6 : Blk (w5.alloc (.cells #[.int .i64 (k3 : Int), .slice A4 n4 c4', .slice A5 n5 c5'] 126)) w5.heap.size 126 #[.int .i64 (k3 : Int), .slice A4 n4 c4', .slice A5 n5 c5'] := Blk.new _ _ _
            have hw6 := below_step hw5 hal5 hw5.size
            have hB6 := hB5.below hal5
            have hN6 := hN5.below hal5
            have hp46 := hp45.below hal5
            have hp6 := PatX.below (hp5.keep (X' := fun b => Z ≤ b) (KeepX.same (fun b h _ => by omega))) hal5
            have hz5 := hb5.size
            simp only [valPt]
            clear HJ2 hp5 hB5 hw4 hB4 hrr c0 hb5 hw5 hN5 hp45 hN3 hp4
            go_upto_region 28 with fail
            generalize w5.alloc (.cells #[.int .i64 (k3 : Int), .slice A4 n4 c4', .slice A5 n5 c5'] 126) = V6 at hM6 hw6 hB6 hN6 hp46 hp6 ⊢
            clear hal5
            generalize w5.heap.size = g2 at hM6 hz5 ⊢
            have x0 := hN6.cell 0
            have x1 := hN6.cell 1
            have x2 := hN6.cell 2
            have y0 := hM6.cell 0
            have y1 := hM6.cell 1
            have y2 := hM6.cell 2
            have r3 := hB6.cell 3
            have r4 := hB6.cell 4
            have r5 := hB6.cell 5
            have r6 := hB6.cell 6
            have r7 := hB6.cell 7
            have r8 := hB6.cell 8
            simp only [List.getElem?_toArray, List.getElem?_cons_succ, List.getElem?_cons_zero] at x0 x1 x2 y0 y1 y2 r3 r4 r5 r6 r7 r8
            have f3 := hB6.frozen 3
            have f4 := hB6.frozen 4
            have f5 := hB6.frozen 5
            have f6 := hB6.frozen 6
            have f7 := hB6.frozen 7
            have f8 := hB6.frozen 8
            have hgR : V6.grownBy ((((((V6.setCell ⟨w.heap.size, 3, none⟩ (.int .i64 (k0 : Int))).setCell ⟨w.heap.size, 4, none⟩ (.slice A1 n1 c1')).setCell ⟨w.heap.size, 5, none⟩ (.slice A2 n2 c2')).setCell ⟨w.heap.size, 6, none⟩ (.int .i64 (k3 : Int))).setCell ⟨w.heap.size, 7, none⟩ (.slice A4 n4 c4')).setCell ⟨w.heap.size, 8, none⟩ (.slice A5 n5 c5')) (some w.heap.size) := only_setCell (only_setCell (only_setCell (only_setCell (only_setCell (only_setCell (only_refl _ _) (p := ⟨w.heap.size, 3, none⟩) (.inl rfl) _) (p := ⟨w.heap.size, 4, none⟩) (.inl rfl) _) (p := ⟨w.heap.size, 5, none⟩) (.inl rfl) _) (p := ⟨w.heap.size, 6, none⟩) (.inl rfl) _) (p := ⟨w.heap.size, 7, none⟩) (.inl rfl) _) (p := ⟨w.heap.size, 8, none⟩) (.inl rfl) _
            have hB7 := (((((hB6.set_ 3 (.int .i64 (k0 : Int))).set_ 4 (.slice A1 n1 c1')).set_ 5 (.slice A2 n2 c2')).set_ 6 (.int .i64 (k3 : Int))).set_ 7 (.slice A4 n4 c4')).set_ 8 (.slice A5 n5 c5')
            simp only [List.setIfInBounds_toArray, List.set_cons_zero, List.set_cons_succ] at hB7
            have hw7 : Below w.heap.size w ((((((V6.setCell ⟨w.heap.size, 3, none⟩ (.int .i64 (k0 : Int))).setCell ⟨w.heap.size, 4, none⟩ (.slice A1 n1 c1')).setCell ⟨w.heap.size, 5, none⟩ (.slice A2 n2 c2')).setCell ⟨w.heap.size, 6, none⟩ (.int .i64 (k3 : Int))).setCell ⟨w.heap.size, 7, none⟩ (.slice A4 n4 c4')).setCell ⟨w.heap.size, 8, none⟩ (.slice A5 n5 c5')) := hw6.trans (below_only hgR hw6.size (Nat.le_refl _))
            have hp47 := hp46.keep (KeepX.grown hgR (fun r hr h => by injection hr with hr; subst hr; omega))
            have hp7 := hp6.keep (KeepX.grown hgR (fun r hr h => by injection hr with hr; subst hr; omega))
            have HF := Lib.hid (And.intro hB7 (And.intro hw7 (And.intro hp47 hp7)))
            clear hgR hB7 hw7 hp47 hp7 hB6 hN6 hM6 hp46 hp6 hw6
            go_upto_region 32 with fail
            clear x0 x1 x2 y0 y1 y2 r3 r4 r5 r6 r7 r8 f3 f4 f5 f6 f7 f8
            obtain ⟨hB7, hw7, hp47, hp7⟩ := HF.out
            clear HF
            generalize ((((((V6.setCell ⟨w.heap.size, 3, none⟩ (.int .i64 (k0 : Int))).setCell ⟨w.heap.size, 4, none⟩ (.slice A1 n1 c1')).setCell ⟨w.heap.size, 5, none⟩ (.slice A2 n2 c2')).setCell ⟨w.heap.size, 6, none⟩ (.int .i64 (k3 : Int))).setCell ⟨w.heap.size, 7, none⟩ (.slice A4 n4 c4')).setCell ⟨w.heap.size, 8, none⟩ (.slice A5 n5 c5')) = V7 at hB7 hw7 hp47 hp7 ⊢
            obtain ⟨i0, hi0, hz0, hz1, hz2⟩ := info_parts infoRule
            have hrr := HR.out.below' hw7
            obtain ⟨vs, ho, hvs, hru⟩ := hrr.ex
            have c1 := hrr.blk.cell 1
            have t0' := hB7.cell 0
            have t1' := hB7.cell 1
            have t2' := hB7.cell 2
            have t3' := hB7.cell 3
            have t4' := hB7.cell 4
            have t5' := hB7.cell 5
            have t6' := hB7.cell 6
            have t7' := hB7.cell 7
            have t8' := hB7.cell 8
            simp only [List.getElem?_toArray, List.getElem?_cons_succ, List.getElem?_cons_zero] at c1 t0' t1' t2' t3' t4' t5' t6' t7' t8'
            have hV7z := hB7.lt
            have hpR : some p ≠ v.1.map (·.block) := fun e => by
              cases hA1 : v.1 with
              | none => rw [hA1] at e; cases e
              | some a => rw [hA1] at e; injection e with e; have e2 : p = a.block := e; have := (ho.lt a hA1).1; have := hrr.pb; omega
            have hRR : some w.heap.size ≠ v.1.map (·.block) := fun e => by
              cases hA1 : v.1 with
              | none => rw [hA1] at e; cases e
              | some a =>
                rw [hA1] at e; injection e with e; have e2 : w.heap.size = a.block := e
                obtain ⟨vs0, ho0, _, _⟩ := HR.out.ex
                have := (ho0.lt a hA1).2; omega
            refine wp_region_last (S := fun U => U.cell? ⟨p, 1, none⟩ = some (.slice v.1 v.2.1 v.2.2) ∧ U.cell? ⟨w.heap.size, 0, none⟩ = some (.bool cut) ∧ U.cell? ⟨w.heap.size, 1, none⟩ = some (.bool st) ∧ U.cell? ⟨w.heap.size, 2, none⟩ = some (.bool en) ∧ U.cell? ⟨w.heap.size, 3, none⟩ = some (.int .i64 (k0 : Int)) ∧ U.cell? ⟨w.heap.size, 4, none⟩ = some (.slice A1 n1 c1') ∧ U.cell? ⟨w.heap.size, 5, none⟩ = some (.slice A2 n2 c2') ∧ U.cell? ⟨w.heap.size, 6, none⟩ = some (.int .i64 (k3 : Int)) ∧ U.cell? ⟨w.heap.size, 7, none⟩ = some (.slice A4 n4 c4') ∧ U.cell? ⟨w.heap.size, 8, none⟩ = some (.slice A5 n5 c5')) 12 rfl (by kernel_rfl) (by kernel_rfl) (by kernel_rfl) ⟨c1, t0', t1', t2', t3', t4', t5', t6', t7', t8'⟩ (fun hHeld => ?_)
            simp only [List.dropLast_cons_cons, List.dropLast_singleton]
            refine wpAnyH_take (i := 0) (v := ?_) rfl (by kernel_rfl) (by kernel_rfl) (by kernel_rfl) (fun _ _ _ h => h) (Or.inl ⟨by rfl, ?_⟩) (by assumption) ?_; rotate_left; focus ((intro w hSw; (try dsimp only at hSw); go_simp); try with_reducible rfl)
            (try simp only [Act.put, List.getElem_toArray, List.getElem_cons_zero, List.setIfInBounds_toArray, List.set_cons_zero, List.set_cons_succ])
            refine wpAnyH_take (i := 1) (v := ?_) rfl (by kernel_rfl) (by kernel_rfl) (by kernel_rfl) (fun _ _ _ h => h) (Or.inl ⟨by rfl, ?_⟩) (by assumption) ?_; rotate_left; focus ((intro w hSw; (try dsimp only at hSw); go_simp); try with_reducible rfl)
            (try simp only [Act.put, List.getElem_toArray, List.getElem_cons_succ, List.getElem_cons_zero, List.setIfInBounds_toArray, List.set_cons_zero, List.set_cons_succ])
            refine wpAnyH_take (i := 2) (v := ?_) rfl (by kernel_rfl) (by kernel_rfl) (by kernel_rfl) (fun _ _ _ h => h) (Or.inl ⟨by rfl, ?_⟩) (by assumption) ?_; rotate_left; focus ((intro w hSw; (try dsimp only at hSw); go_simp); try with_reducible rfl)
            (try simp only [Act.put, List.getElem_toArray, List.getElem_cons_succ, List.getElem_cons_zero, List.setIfInBounds_toArray, List.set_cons_zero, List.set_cons_succ])
            refine wpAnyH_take (i := 3) (v := ?_) rfl (by kernel_rfl) (by kernel_rfl) (by kernel_rfl) (fun _ _ _ h => h) (Or.inl ⟨by rfl, ?_⟩) (by assumption) ?_; rotate_left; focus ((intro w hSw; (try dsimp only at hSw); go_simp); try with_reducible rfl)
            (try simp only [Act.put, List.getElem_toArray, List.getElem_cons_succ, List.getElem_cons_zero, List.setIfInBounds_toArray, List.set_cons_zero, List.set_cons_succ])
            refine wpAnyH_take (i := 4) (v := ?_) rfl (by kernel_rfl) (by kernel_rfl) (by kernel_rfl) (fun _ _ _ h => h) (Or.inl ⟨by rfl, ?_⟩) (by assumption) ?_; rotate_left; focus ((intro w hSw; (try dsimp only at hSw); go_simp); try with_reducible rfl)
            (try simp only [Act.put, List.getElem_toArray, List.getElem_cons_succ, List.getElem_cons_zero, List.setIfInBounds_toArray, List.set_cons_zero, List.set_cons_succ])
            refine wpAnyH_take (i := 5) (v := ?_) rfl (by kernel_rfl) (by kernel_rfl) (by kernel_rfl) (fun _ _ _ h => h) (Or.inl ⟨by rfl, ?_⟩) (by assumption) ?_; rotate_left; focus ((intro w hSw; (try dsimp only at hSw); go_simp); try with_reducible rfl)
            (try simp only [Act.put, List.getElem_toArray, List.getElem_cons_succ, List.getElem_cons_zero, List.setIfInBounds_toArray, List.set_cons_zero, List.set_cons_succ])
            refine wpAnyH_take (i := 6) (v := ?_) rfl (by kernel_rfl) (by kernel_rfl) (by kernel_rfl) (fun _ _ _ h => h) (Or.inl ⟨by rfl, ?_⟩) (by assumption) ?_; rotate_left; focus ((intro w hSw; (try dsimp only at hSw); go_simp); try with_reducible rfl)
            (try simp only [Act.put, List.getElem_toArray, List.getElem_cons_succ, List.getElem_cons_zero, List.setIfInBounds_toArray, List.set_cons_zero, List.set_cons_succ])
            refine wpAnyH_ready (rs := [7]) (by kernel_rfl) (by simp) ?_
            refine AllReadyH.cons rfl (fun K hK => ?_) AllReadyH.nil
            go_simp
            refine hK.out _ _ ⟨cell_alloc9 c1 _, cell_alloc9 t0' _, cell_alloc9 t1' _, cell_alloc9 t2' _, cell_alloc9 t3' _, cell_alloc9 t4' _, cell_alloc9 t5' _, cell_alloc9 t6' _, cell_alloc9 t7' _, cell_alloc9 t8' _⟩ (fun hHeld => ?_)
            clear hK K
            (try simp only [Act.put, List.getElem_toArray, List.getElem_cons_succ, List.getElem_cons_zero, List.setIfInBounds_toArray, List.set_cons_zero, List.set_cons_succ])
            refine wpAnyH_ready (rs := [8]) (by kernel_rfl) (by simp) ?_
            refine AllReadyH.cons rfl (fun K hK => ?_) AllReadyH.nil
            refine step_app rfl (.tmp 125) (.tmp 127) _ rfl B 128 i0 _ 9 120 Tryz.underlying39 hi0 hz0 hz1 hz2 rfl (by omega) v.1 v.2.1 v.2.2 (vs.map encRul) rfl (ho.drew.alloc _) _ 1 1 [encRul (cut, st, en, (k0, (A1, n1, c1'), (A2, n2, c2')), (k3, (A4, n4, c4'), (A5, n5, c5')))] rfl rfl (Rd.newAt (by simp) rfl) (encRul_ok _) (by unfold maxLen; omega) (by omega) (by have := hrr.bz; simp; omega) ?_
            intro A3 c3 w9 ho9 hg9 hA9
            have hP9 := (hrr.blk.drew.alloc (.cells (#[.bool cut, .bool st, .bool en, .int .i64 (k0 : Int), .slice A1 n1 c1', .slice A2 n2 c2', .int .i64 (k3 : Int), .slice A4 n4 c4', .slice A5 n5 c5'] : Array Value) 128)).grown hg9 hpR
            have hR9 := (hB7.drew.alloc (.cells (#[.bool cut, .bool st, .bool en, .int .i64 (k0 : Int), .slice A1 n1 c1', .slice A2 n2 c2', .int .i64 (k3 : Int), .slice A4 n4 c4', .slice A5 n5 c5'] : Array Value) 128)).grown hg9 hRR
            have p9 := hP9.cell 1
            have fz9 := hP9.frozen 1
            simp only [List.getElem?_toArray, List.getElem?_cons_succ, List.getElem?_cons_zero] at p9
            refine hK.out _ _ ⟨p9, hR9.cell 0, hR9.cell 1, hR9.cell 2, hR9.cell 3, hR9.cell 4, hR9.cell 5, hR9.cell 6, hR9.cell 7, hR9.cell 8⟩ (fun hHeld => ?_)
            clear hK K
            (try simp only [Act.put, List.getElem_toArray, List.getElem_cons_succ, List.getElem_cons_zero, List.setIfInBounds_toArray, List.set_cons_zero, List.set_cons_succ])
            refine wpAnyH_take (i := 9) (v := ?_) rfl (by kernel_rfl) (by kernel_rfl) (by kernel_rfl) (fun _ _ _ h => h) (Or.inl ⟨by rfl, ?_⟩) (by assumption) ?_; rotate_left; focus ((intro w hSw; (try dsimp only at hSw); go_simp); try with_reducible rfl)
            (try simp only [Act.put, List.getElem_toArray, List.getElem_cons_succ, List.getElem_cons_zero, List.setIfInBounds_toArray, List.set_cons_zero, List.set_cons_succ])
            refine wpAnyH_take (i := 10) (v := ?_) rfl (by kernel_rfl) (by kernel_rfl) (by kernel_rfl) (fun _ _ _ h => h) (Or.inl ⟨by rfl, ?_⟩) (by assumption) ?_; rotate_left; focus ((intro w hSw; (try dsimp only at hSw); go_simp); try with_reducible rfl)
            (try simp only [Act.put, List.getElem_toArray, List.getElem_cons_succ, List.getElem_cons_zero, List.setIfInBounds_toArray, List.set_cons_zero, List.set_cons_succ])
            refine wpAnyH_take (i := 11) (v := ?_) rfl (by kernel_rfl) (by kernel_rfl) (by kernel_rfl) (fun _ _ _ h => h) (Or.inl ⟨by rfl, ?_⟩) (by assumption) ?_; rotate_left; focus ((intro w hSw; (try dsimp only at hSw); go_simp); try with_reducible rfl)
            (try simp only [Act.put, List.getElem_toArray, List.getElem_cons_succ, List.getElem_cons_zero, List.setIfInBounds_toArray, List.set_cons_zero, List.set_cons_succ])
            refine wpAnyH_done (by kernel_rfl) ?_ _
            refine tailQ_end (wpOp_step (i := 12) rfl (fun K hK => ?_))
            go_simp
            refine hK _ _ ?_
            clear hK K
            have HFin : Hid (LnP w p B A nn cn names (x.rules ++ [⟨cut, st, en, pl, pr⟩]) x.rest x.rested (w9.setCell ⟨p, 1, none⟩ (.slice A3 (v.2.1 + 1) c3))) := Lib.hid (by
              have hb9 : Below B V7 w9 := below_app (((Below.refl B V7).drew).alloc (by have := hrr.bz; simp; omega) _) hg9 (by have := hrr.bz; simp; omega) (fun a ha => (ho.lt a ha).1)
              have hk9 : w9.grownBy (w9.setCell ⟨p, 1, none⟩ (.slice A3 (v.2.1 + 1) c3)) (some p) := only_setCell (only_refl _ _) (p := ⟨p, 1, none⟩) (.inl rfl) _
              have hkx : KeepX (OffX B v.1) (OffX B A3) V7 w9 := (KeepX.below (((Below.refl V7.heap.size V7).drew).alloc (Nat.le_refl _) (.cells (#[.bool cut, .bool st, .bool en, .int .i64 (k0 : Int), .slice A1 n1 c1', .slice A2 n2 c2', .int .i64 (k3 : Int), .slice A4 n4 c4', .slice A5 n5 c5'] : Array Value) 128))).trans ⟨hg9.size, fun b hb hl => hg9.block b hl (fun e => by
                  cases hA1 : v.1 with
                  | none => rw [hA1] at e; cases e
                  | some a => rw [hA1] at e; injection e with e; exact hb.2 a hA1 e), fun b hb hl => ⟨hb.1, fun a ha e => by
                  rcases hA9 with h1 | h1
                  · exact hb.2 a (by rw [← h1]; exact ha) e
                  · rw [h1] at ha
                    injection ha with ha
                    subst ha
                    simp at hl e
                    omega⟩⟩
              have hkp : KeepX (OffX B A3) (OffX B A3) w9 (w9.setCell ⟨p, 1, none⟩ (.slice A3 (v.2.1 + 1) c3)) := KeepX.grown hk9 (fun r hr h => by injection hr with hr; subst hr; have := h.1; have := hrr.pb; omega)
              have hvz : ∀ a, v.1 = some a → a.block < w.heap.size := fun a ha => by
                obtain ⟨vs0, ho0, _, _⟩ := HR.out.ex
                exact (ho0.lt a ha).2
              have hnew : ∀ {q : Pat} {u : Pv}, PatX V7 (fun b => Z ≤ b) q u → PatX w9 (OffX B A3) q u := fun h => h.keep ((KeepX.same (X' := OffX B v.1) (fun b h _ => ⟨by have := HR.out.bz; omega, fun a ha e => by have := hvz a ha; omega⟩)).trans hkx)
              refine ⟨(A3, v.2.1 + 1, c3), ⟨?_, ?_, hrr.len, hrr.off, hrr.pb, by have := hrr.bz; have := hb9.size; simp; omega, vs ++ [(cut, st, en, (k0, (A1, n1, c1'), (A2, n2, c2')), (k3, (A4, n4, c4'), (A5, n5, c5')))], ?_, by rw [List.length_append, List.length_append, hvs]; rfl, fun i r u hr hu => ?_⟩, ?_, fun i hi hne => ?_⟩
              · have := hP9.set_ 1 (.slice A3 (v.2.1 + 1) c3)
                simpa using this
              · exact (hrr.nm.belowB (hb9.mono (Nat.le_of_lt hrr.pb)) hrr.off).setCell (p := ⟨p, 1, none⟩) (fun x hx e => by have := hrr.off x hx; simp only at e; omega) _
              · rw [List.map_append]
                exact ho9.setCell (p := ⟨p, 1, none⟩) (fun x hx e => by have := (ho9.lt x hx).1; have := hrr.pb; simp only at e; omega) _
              · refine RuX.keep ?_ hkp
                rcases Nat.lt_or_ge i x.rules.length with hlt | hge
                · rw [List.getElem?_append_left hlt] at hr
                  rw [List.getElem?_append_left (by omega)] at hu
                  exact (hru i r u hr hu).keep hkx
                · obtain ⟨j, rfl⟩ : ∃ j, i = x.rules.length + j := ⟨i - x.rules.length, by omega⟩
                  rw [List.getElem?_append_right (by omega), Nat.add_sub_cancel_left] at hr
                  rw [List.getElem?_append_right (by omega), hvs, Nat.add_sub_cancel_left] at hu
                  cases j with
                  | zero =>
                    simp only [List.getElem?_cons_zero, Option.some.injEq] at hr hu
                    subst hr hu
                    exact ⟨rfl, rfl, rfl, hnew hp47, hnew hp7⟩
                  | succ j => simp at hr
              · exact ((hw7.mono (by omega)).trans (hb9.mono (Nat.le_of_lt hrr.pb))).trans (below_only hk9 (by have := hb9.size; omega) (Nat.le_refl _))
              · exact (hk9.block i (by have := hb9.size; have := hrr.bz; omega) (fun e => hne (by injection e))).trans ((hb9.block i hi).trans (hw7.block i (by have := HR.out.bz; omega))))
            clear ho9 hg9 hA9 hP9 hR9 hHeld
            go_wp2
            go_ret
            refine ⟨rfl, ?_⟩
            have h9 := HFin.out
            rw [Hst2.out, hrd] at h9
            exact h9
end Go.Proofs.YtdnkignhenkamaaGreatDoor

/- -/
namespace Go.Proofs.YtdnkignhenkamaaGreatDoor
open Go.RowKit Go.Maps
set_option maxRecDepth 100000 in
set_option maxHeartbeats 8000000 in
theorem vrest_any (p base x : Nat) (d : DbP) (w : World) (hd : RfB w base p x d.names d.sets) (ho : d.Ok) (ha : Apart d.sets) (hB : base ≤ w.heap.size) :
    Calls Tryz.prog 112 #[.pointer (some ⟨p, 0, none⟩)] w fun e w' => e = .returned (.tuple #[]) ∧ RfB w' base p x d.names d.full ∧ Below base w w' := by
  obtain ⟨An, nn, cn, As, ns, cs, xs, hX⟩ := hd.ex
  obtain ⟨j0, hj0, hy0, hy1, hy2⟩ := info_parts infoR
  have hns1 : 0 < ns := by
    have h1 := hX.lenS.2; have h2 := ho.len; have h3 := ho.head
    cases hd : d.names with
    | nil => rw [hd] at h3; cases h3
    | cons a b => rw [hd] at h2; simp at h2; omega
  obtain ⟨g, HAs, hgB, hgw⟩ := hX.hs.form hns1
  subst HAs
  have hns64 : ns ≤ 64 := by have h1 := hX.lenS.2; have h2 := ho.len; have h3 := ho.few; omega
  obtain ⟨T, HT⟩ : ∃ T, Hid (d.sets.tail = T) := ⟨_, rfl⟩
  have hTl : T.length + 1 = ns := by have h1 := hX.lenS.2; have := HT.out; rw [← this, List.length_tail]; omega
  have HTl := Lib.hid hTl
  have HTS : Hid (lenS T ≤ 1114112) := Lib.hid (by have := rng_len ho ha; rw [← HT.out]; omega)
  have HTN : Hid (∀ (k : Nat) (s : List (Int × Int)), T[k]? = some s → NF s ∧ d.sets[k + 1]? = some s) := Lib.hid (fun k s hk => by
    have : d.sets[k + 1]? = some s := by rw [← HT.out] at hk; rw [List.getElem?_tail] at hk; exact hk
    exact ⟨ho.nf s (List.mem_of_getElem? this), this⟩)
  have HFS := Lib.hid (full_set ho)
  have HRest : Hid (d.rest = notR (T.flatten)) := Lib.hid (by unfold DbP.rest; rw [HT.out])
  have c1 := hX.blk.cell 1
  simp at c1
  clear ho ha hTl hd
  go_enter Tryz.func112, Tryz.ntmps112
  go_wp2_with fail
  go_loopw [2, 3] (fun a v wr => ∃ (c : Nat) (Aa : Option Addr) (na ca : Nat), a = .slice Aa na ca ∧ v = .int .i64 (c + 1 : Nat) ∧ c + 1 ≤ ns ∧ Own wr w.heap.size 110 2 Aa na ca (((T.take c).flatten).map encR) ∧ Below w.heap.size w wr) (fun _ v _ => ns - (intOf v).toNat)
  case atStart => exact ⟨0, none, 0, 0, rfl, rfl, by omega, by simp; exact Own.nil_ _ _ _ _, Below.refl _ _⟩
  case round =>
    obtain ⟨c, Aa, na, ca, rfl, rfl, hc, hal, hb⟩ := hrel
    have hszr := hb.size
    have e1 := cell_keep c1 hb
    have hfl := Lib.hid (flat_le T c)
    have hnal : na ≤ 1114112 := by have h1 := hal.len; rw [List.length_map] at h1; have := hfl.out; have := HTS.out; omega
    by_cases hlt : c + 1 < ns
    · obtain ⟨s, Hs⟩ : ∃ s, Hid (T[c]? = some s) := ⟨_, Lib.hid (List.getElem?_eq_getElem (show c < T.length by have := HTl.out; omega))⟩
      obtain ⟨HNF, Hd⟩ := HTN.out c s Hs.out
      obtain ⟨⟨yA, yn, yc⟩, Hy⟩ : ∃ y, Hid (xs[c + 1]? = some y) := ⟨_, Lib.hid (List.getElem?_eq_getElem (show c + 1 < xs.length by have := hX.lenS.1; omega))⟩
      have hoy : Own w base 110 2 yA yn yc (s.map encR) := hX.hx.own (c + 1) (yA, yn, yc) s Hy.out Hd
      have hly : s.length = yn := by simpa using hoy.len
      have Hly := Lib.hid hly
      have hny := own_nf_len hoy HNF
      have hcell := cell_keep (hX.hs.cell' rfl Hy.out) hb
      have hoq := hoy.below hb
      have HFN := Lib.hid (flat_next Hs.out)
      have hfl2 := Lib.hid (flat_le T (c + 1))
      have hbound : na + yn ≤ 1114112 := by
        have h1 := hal.len; rw [List.length_map] at h1
        have h2 := hfl2.out; rw [HFN.out, List.length_append] at h2; have := HTS.out; omega
      have hI : (c : Int) + 1 < ns := by omega
      clear HNF Hd hly
      go_wp2_with (at_builtin; go_must (refine wpList_app rfl (.tmp 13) (.tmp 20) _ rfl w.heap.size 110 j0 _ 2 8 Tryz.underlying74 hj0 hy0 hy1 hy2 rfl (by omega) Aa na ca (((T.take c).flatten).map encR) rfl hal yA yn yc (s.map encR) rfl (by rw [List.length_map]; exact Hly.out) (hoq.rd (by omega)) (encR_ok s) (by unfold maxLen; omega) (by omega) (by omega) ?_); intro A3 c3 w3 ho3 hg3 hA3)
      have Ho3 : Own w3 w.heap.size 110 2 A3 (na + yn) c3 (((T.take (c + 1)).flatten).map encR) := by rw [HFN.out, List.map_append]; exact ho3
      have hb3 := below_app hb hg3 hszr (fun a ha => (hal.lt a ha).1)
      clear ho3 hg3
      go_roundw
      case rel => exact ⟨c + 1, A3, na + yn, c3, rfl, by go_num, by omega, Ho3, hb3⟩
      case measure => simp [intOf]; omega
    · obtain rfl : c + 1 = ns := by omega
      have HFe : Hid ((T.take c).flatten = T.flatten) := Lib.hid (by rw [List.take_of_length_le (by have := HTl.out; omega)])
      rw [HFe.out] at hal
      have hXr := hX.below hb
      have HNot := Lib.hid (sNot_any Aa na ca T.flatten wr.drew ((hal.rd (by omega)).drew) (by have h1 := hal.len; rw [List.length_map] at h1; exact h1) (by omega))
      obtain ⟨y0, hy0'⟩ : ∃ y, xs[0]? = some y := ⟨_, List.getElem?_eq_getElem (show 0 < xs.length by have := hX.lenS.1; omega)⟩
      have k0 := hXr.hs.cell' rfl hy0'
      have hXd := hXr.below (w' := wr.drew) ((Below.refl _ _).drew)
      have hBr : base ≤ wr.heap.size := by omega
      go_wp2_with fail
      refine wp_region_noPanic ?_
      go_region_law (go_simp; go_at_call 141; refine HNot.out.mono ?_; rintro e wz ⟨A', n', c', rfl, ho', hb'⟩; have kz0 := cell_keep (w := wr.drew) k0 hb'; have kz1 := cell_keep (w := wr.drew) e1 hb'; have kzf := (hXd.hs.below hb').frozen 0)
      all_goals
        refine NoPanic.normal ?_
        have hDz := (hXd.below hb').storeSet (k := 0) (y := (A', n', c')) (l := d.rest) (by omega) (by rw [HRest.out]; exact ho') hBr
        have hbz := (((hb.mono hB).trans ((Below.refl wr.heap.size wr).drew.mono hBr)).trans (hb'.mono hBr)).trans hDz.2.1
        rw [HFS.out] at hDz
        go_wp2
        first | exact ⟨_, results_none rfl _ _ _, rfl, ⟨_, _, _, _, _, _, _, hDz.1⟩, hbz⟩ | exact ⟨_, rfl, results_none rfl _ _ _, rfl, ⟨_, _, _, _, _, _, _, hDz.1⟩, hbz⟩ | exact ⟨rfl, _, results_none rfl _ _ _, rfl, ⟨_, _, _, _, _, _, _, hDz.1⟩, hbz⟩
def RNewEnd (r : Except (Int × Nat) DbP) (e : Ending) (w' : World) (base : Nat) : Prop :=
  match r with
  | .error x => e = .returned (.tuple #[.pointer none, .int .i64 x.1, .int .i64 (x.2 : Int)])
  | .ok d => ∃ p x, e = .returned (.tuple #[.pointer (some ⟨p, 0, none⟩), .int .i64 0, .int .i64 0]) ∧ RfB w' base p x d.names d.full
theorem RNewEnd.err {r : Except (Int × Nat) DbP} {k : Int} {i : Nat} {w' : World} {base : Nat} (h : r = .error (k, i)) : RNewEnd r (.returned (.tuple #[.pointer none, .int .i64 k, .int .i64 (i : Int)])) w' base := by rw [h]; exact rfl
theorem RNewEnd.fine {r : Except (Int × Nat) DbP} {d : DbP} {p x : Nat} {w' : World} {base : Nat} (h : r = .ok d) (hd : RfB w' base p x d.names d.full) : RNewEnd r (.returned (.tuple #[.pointer (some ⟨p, 0, none⟩), .int .i64 0, .int .i64 0])) w' base := by rw [h]; exact ⟨p, x, rfl, hd⟩
theorem step_err {d : DbP} {L : List UInt8} {k : Int} (h : stepL d L = .error k) : 6 ≤ k := by
  unfold stepL at h
  split at h
  · cases h
  · injection h with h; omega
  · exact addL_err h
theorem rfX_first (w : World) :
    RfX (((w.alloc (.cells #[.string (bytesOf otherL)] 9)).alloc (.cells #[.slice none 0 0] 74)).alloc (.cells #[.slice (some ⟨w.heap.size, 0, none⟩) 1 1, .slice (some ⟨w.heap.size + 1, 0, none⟩) 1 1] 72)) w.heap.size (w.heap.size + 2) (w.heap.size + 3)
      (some ⟨w.heap.size, 0, none⟩) 1 1 (some ⟨w.heap.size + 1, 0, none⟩) 1 1 [(none, 0, 0)] [otherL] [[]] ∧
    Below w.heap.size w (((w.alloc (.cells #[.string (bytesOf otherL)] 9)).alloc (.cells #[.slice none 0 0] 74)).alloc (.cells #[.slice (some ⟨w.heap.size, 0, none⟩) 1 1, .slice (some ⟨w.heap.size + 1, 0, none⟩) 1 1] 72)) := by
  have n1 : Own (w.alloc (.cells #[.string (bytesOf otherL)] 9)) w.heap.size 9 1 (some ⟨w.heap.size, 0, none⟩) 1 1 ([otherL].map encNm) := own_one (Nat.le_refl _)
  have s2 : Own ((w.alloc (.cells #[.string (bytesOf otherL)] 9)).alloc (.cells #[.slice none 0 0] 74)) w.heap.size 74 1 (some ⟨w.heap.size + 1, 0, none⟩) 1 1 ([((none : Option Addr), 0, 0)].map encSl) := by
    have := own_one (w := w.alloc (.cells #[.string (bytesOf otherL)] 9)) (t := 74) (u := .slice none 0 0) (base := w.heap.size) (by simp)
    rw [show (w.alloc (.cells #[.string (bytesOf otherL)] 9)).heap.size = w.heap.size + 1 by simp] at this
    exact this
  refine ⟨⟨?_, by omega, (n1.alloc _).alloc _, s2.alloc _, ⟨rfl, ?_⟩, by omega, fun a ha => by injection ha with ha; subst ha; show w.heap.size ≠ w.heap.size + 3; omega, fun a ha => by injection ha with ha; subst ha; show w.heap.size + 1 ≠ w.heap.size + 3; omega⟩, ?_⟩
  · have := Blk.new ((w.alloc (.cells #[.string (bytesOf otherL)] 9)).alloc (.cells #[.slice none 0 0] 74)) 72 #[.slice (some ⟨w.heap.size, 0, none⟩) 1 1, .slice (some ⟨w.heap.size + 1, 0, none⟩) 1 1]
    simpa using this
  · intro k x l hx hl
    match k, hx, hl with
    | 0, hx, hl => simp at hx hl; subst hx; subst hl; exact Own.nil_ _ _ _ _
    | k + 1, hx, hl => simp at hx
  · exact (((Below.refl _ _).alloc (Nat.le_refl _) _).alloc (by simp) _).alloc (by simp; omega) _
set_option maxRecDepth 100000 in
set_option maxHeartbeats 8000000 in
theorem vNew_any (t : List UInt8) (w : World) (ht : t.length ≤ maxLen) :
    Calls Tryz.prog 89 #[.string (bytesOf t)] w fun e w' => RNewEnd (newP t) e w' w.heap.size ∧ Below w.heap.size w w' := by
  have hsz : (bytesOf t).size = t.length := bytesOf_size t
  unfold maxLen at ht
  by_cases hl : 65536 < t.length
  · have HE := Lib.hid (newP_long hl)
    go_enter Tryz.func89, Tryz.ntmps89
    go_wp2
    go_ret3
    exact ⟨RNewEnd.err HE.out, Below.refl _ _⟩
  · have HG := Lib.hid (newP_go hl)
    obtain ⟨hX, hB0⟩ := rfX_first w
    have hw3 : w.heap.size + 3 = (((w.alloc (.cells #[.string (bytesOf otherL)] 9)).alloc (.cells #[.slice none 0 0] 74)).alloc (.cells #[.slice (some ⟨w.heap.size, 0, none⟩) 1 1, .slice (some ⟨w.heap.size + 1, 0, none⟩) 1 1] 72)).heap.size := by simp
    obtain ⟨L, HL⟩ : ∃ L, Hid (splitL t = L) := ⟨_, rfl⟩
    have HLl := Lib.hid (fun i l (h : L[i]? = some l) => line_len (t := t) (i := i) (l := l) (by rw [HL.out]; exact h))
    have HLn : Hid (L.length ≤ 65537) := Lib.hid (by rw [← HL.out, splitL_count]; have := List.count_le_length (a := (10 : UInt8)) (l := t); omega)
    have HNP : Hid (newP t = linesGo DbP.first L 0) := Lib.hid (by rw [HG.out, HL.out])
    have HV := Lib.hid (fun W => vLines_any t W (by omega))
    rw [HL.out] at HV
    go_enter Tryz.func89, Tryz.ntmps89
    go_wp2_with fail
    rw [show (⟨#[79, 116, 104, 101, 114]⟩ : ByteArray) = bytesOf otherL from rfl]
    generalize ((w.alloc (.cells #[.string (bytesOf otherL)] 9)).alloc (.cells #[.slice none 0 0] 74)).alloc (.cells #[.slice (some ⟨w.heap.size, 0, none⟩) 1 1, .slice (some ⟨w.heap.size + 1, 0, none⟩) 1 1] 72) = w3 at hX hB0 hw3 ⊢
    refine (HV.out w3).mono ?_
    rintro e w4 ⟨AL, nL, cL, rfl, hoL, hb4⟩
    have hnL : L.length = nL := by simpa using hoL.len
    have hX4 := hX.below hb4
    have hB4 := below_step hB0 hb4 (by have := hB0.size; omega)
    have HnL := Lib.hid hnL
    have HLne : Hid (L ≠ []) := Lib.hid (by rw [← HL.out]; exact splitL_ne t)
    clear hnL HG HL
    -- the block of the lines, or none
    obtain ⟨x, hxw, hXx, hcells⟩ : ∃ x, x < w4.heap.size ∧ RfX w4 w.heap.size (w.heap.size + 2) x (some ⟨w.heap.size, 0, none⟩) 1 1 (some ⟨w.heap.size + 1, 0, none⟩) 1 1 [(none, 0, 0)] [otherL] [[]] ∧
        (∀ W : World, W.heap[x]? = w4.heap[x]? → ∀ i l, L[i]? = some l → ∃ off, AL = some ⟨x, off, none⟩ ∧ W.cell? ⟨x, off + i, none⟩ = some (.string (bytesOf l))) := by
      have h0 : 0 < nL := by
        cases hq : L with
        | nil => exact absurd hq HLne.out
        | cons a b => rw [← HnL.out, hq]; simp
      obtain ⟨gx, hgx, hg1, hg2⟩ := hoL.form h0
      subst hgx
      refine ⟨gx, hg2, { hX4 with xp := by omega, xn := fun a ha => by injection ha with ha; subst ha; show w.heap.size ≠ gx; omega, xs_ := fun a ha => by injection ha with ha; subst ha; show w.heap.size + 1 ≠ gx; omega }, fun W hW i l hl => ?_⟩
      have h1 := hoL.cell (k := i) (j := 0) (x := encNm l) (u := .string (bytesOf l)) (by rw [List.getElem?_map, hl]; rfl) rfl
      simp only [Nat.mul_one, Nat.add_zero] at h1
      exact ⟨0, rfl, by rw [Nat.zero_add]; exact (World.cell?_of_block hW).trans h1⟩
    have HCells := Lib.hid hcells
    have hsw := hB4.size
    clear hcells hX hX4 hB0 hw3 hb4 hoL
    generalize w.heap.size + 2 = p at hXx ⊢
    go_wp2_with fail
    go_loopw [7] (fun v wr => ∃ (i : Nat) (d : DbP), v = .int .i64 i ∧ i ≤ L.length ∧ RfB wr w.heap.size p x d.names d.sets ∧ wr.heap[x]? = w4.heap[x]? ∧ Hid (NewAt L i d) ∧ Below w.heap.size w wr ∧ x < wr.heap.size) (fun v _ => L.length - (intOf v).toNat)
    case atStart => exact ⟨0, DbP.first, rfl, by omega, ⟨_, _, _, _, _, _, _, hXx⟩, rfl, newAt_first L, hB4, hxw⟩
    case round =>
      clear hXx
      obtain ⟨i, d, rfl, hi, hd, hxr, HN, hb, hxl⟩ := hrel
      have hszr := hb.size
      have hnl := HnL.out
      by_cases hlt : i < L.length
      · obtain ⟨l, Hl⟩ : ∃ l, Hid (L[i]? = some l) := ⟨_, Lib.hid (List.getElem?_eq_getElem hlt)⟩
        obtain ⟨off, rfl, hcell⟩ := HCells.out wr hxr i l Hl.out
        have hll := HLl.out i l Hl.out
        have HN2 := HLn.out
        have HA := Lib.hid (vline_any p w.heap.size x d l wr hd HN.out.2.2.1 hxl hszr (by omega))
        have hltn : i < nL := by omega
        clear hnl
        cases hs : stepL d l with
        | error k =>
          rw [hs] at HA
          have hk0 : ((k : Int) != 0) = true := by rw [bne_iff_ne]; have := step_err hs; omega
          have HE := Lib.hid (HNP.out.trans (newAt_err HN.out Hl.out hs))
          clear hs
          go_wp2_with fail
          refine HA.out.mono ?_
          rintro e w6 ⟨hk, hae⟩
          have he : e = .returned (.int .i64 k) := hae
          subst he
          go_wp2
          go_ret3
          exact ⟨RNewEnd.err HE.out, hb.trans hk.1⟩
        | ok d' =>
          rw [hs] at HA
          have HN' := Lib.hid (newAt_next HN.out Hl.out hs)
          clear hs
          go_wp2_with fail
          refine HA.out.mono ?_
          rintro e w6 ⟨hk, rfl, hd'⟩
          go_wp2
          go_roundw
          case rel => exact ⟨i + 1, d', by go_num, by omega, hd', (hk.2 hxl).trans hxr, HN', hb.trans hk.1, Nat.lt_of_lt_of_le hxl hk.1.size⟩
          case measure => simp [intOf]; omega
      · have HE := Lib.hid (HNP.out.trans (newAt_end HN.out hlt))
        have HC := Lib.hid (vrest_any p w.heap.size x d wr hd HN.out.2.2.1 HN.out.2.2.2 hszr)
        go_wp2_with (go_at_call 112; refine HC.out.mono ?_; rintro e w5 ⟨rfl, hda, hb5⟩)
        go_ret3
        exact ⟨RNewEnd.fine HE.out hda, hb.trans hb5⟩
end Go.Proofs.YtdnkignhenkamaaGreatDoor

/- -/
namespace Go.Proofs.YtdnkignhenkamaaGreatDoor
open Go.RowKit
theorem linesB_split : ∀ (l acc : List UInt8), ∃ x t, splitL l = x :: t ∧ linesB l acc = (acc.reverse ++ x) :: t
  | [], acc => ⟨[], [], rfl, by simp [linesB]⟩
  | c :: r, acc => by
    have hc : c = 10 ↔ c.toNat = 10 := u8_eq (n := 10) (by omega)
    by_cases h : c.toNat = 10
    · obtain ⟨x, t, h1, h2⟩ := linesB_split r []
      refine ⟨[], splitL r, by rw [splitL, if_pos (hc.2 h)], ?_⟩
      rw [linesB, if_pos h, h2, h1]; simp
    · obtain ⟨x, t, h1, h2⟩ := linesB_split r (c :: acc)
      refine ⟨c :: x, t, by rw [splitL, if_neg (fun e => h (hc.1 e)), h1], ?_⟩
      rw [linesB, if_neg h, h2]; simp
theorem linesB_eq (l : List UInt8) : linesB l [] = splitL l := by
  obtain ⟨x, t, h1, h2⟩ := linesB_split l []
  rw [h1, h2]; rfl
theorem split_each : ∀ (l : List UInt8), (splitL l).length ≤ l.length + 1 ∧ ∀ x ∈ splitL l, x.length ≤ l.length
  | [] => by simp [splitL]
  | c :: r => by
    obtain ⟨h1, h2⟩ := split_each r
    rw [splitL]
    split
    · refine ⟨by simp; omega, fun x hx => ?_⟩
      rcases List.mem_cons.1 hx with rfl | hx
      · simp
      · have := h2 x hx; simp; omega
    · split
      · exact ⟨by simp, by simp⟩
      · rename_i x t hs
        rw [hs] at h1 h2
        refine ⟨by simp at h1 ⊢; omega, fun y hy => ?_⟩
        rcases List.mem_cons.1 hy with rfl | hy
        · have := h2 x (by simp); simp; omega
        · have := h2 y (List.mem_cons_of_mem _ hy); simp; omega
theorem rules_step {ns : List (List UInt8)} {ls : List (List UInt8)} {i : Nat} {l : List UInt8} {x y : RsP} (h : rulesGo ns (ls.drop i) x = some y) (hl : ls[i]? = some l) : ∃ z, ruleLine ns x l = some z ∧ rulesGo ns (ls.drop (i + 1)) z = some y := by
  obtain ⟨hi, e⟩ := List.getElem?_eq_some_iff.1 hl
  rw [List.drop_eq_getElem_cons hi, e, rulesGo] at h
  split at h
  · cases h
  · rename_i z hz
    exact ⟨z, hz, h⟩
theorem rules_end {ns : List (List UInt8)} {ls : List (List UInt8)} {i : Nat} {x y : RsP} (h : rulesGo ns (ls.drop i) x = some y) (hi : ls.length ≤ i) : x = y := by
  rw [List.drop_eq_nil_of_le hi, rulesGo] at h
  injection h
theorem rulesP_some {ns : List (List UInt8)} {l : List UInt8} {y : RsP} (h : rulesP ns l = some y) : l.length ≤ 16384 ∧ rulesGo ns (splitL l) ⟨[], true, false⟩ = some y := by
  unfold rulesP at h
  split at h
  · cases h
  · rw [linesB_eq] at h
    exact ⟨by omega, h⟩
def RRx (w : World) (p B : Nat) (A : Option Addr) (nn cn : Nat) (names : List (List UInt8)) (x : RsP) : Prop := ∃ v, RR w p B A nn cn names x.rules v x.rest x.rested
def RuCell (w : World) (b : Nat) (v : Sv) (rest : Bool) : Prop := w.cell? ⟨b, 0, none⟩ = some (.slice v.1 v.2.1 v.2.2) ∧ w.cell? ⟨b, 1, none⟩ = some (.bool rest)
set_option maxRecDepth 100000 in
theorem res_parse8 (w : World) (b : Nat) (v : Sv) (rest : Bool) (tmps : Array Value) (h4 : tmps.getD 4 undef = .pointer (some ⟨b, 0, none⟩)) (h5 : tmps.getD 5 undef = .int .i64 0) (h6 : tmps.getD 6 undef = .int .i64 0) (hc : RuCell w b v rest) : (results Tryz.f90 tmps).run Tryz.prog w = .ok (.tuple #[valRs v rest, .int .i64 0, .int .i64 0]) w := by
  have h4' : tmps[4]?.getD undef = .pointer (some ⟨b, 0, none⟩) := by simpa [Array.getD_eq_getD_getElem?] using h4
  have h5' : tmps[5]?.getD undef = .int .i64 0 := by simpa [Array.getD_eq_getD_getElem?] using h5
  have h6' : tmps[6]?.getD undef = .int .i64 0 := by simpa [Array.getD_eq_getD_getElem?] using h6
  obtain ⟨h0, h1⟩ := hc
  simp [results, Tryz.results90, go_sem, h4', h5', h6', h0, h1, valRs]
set_option maxRecDepth 100000 in
set_option maxHeartbeats 8000000 in
theorem oParse_any (t : List UInt8) (A : Option Addr) (nn cn : Nat) (names : List (List UInt8)) (y : RsP) (w : World) (hA : Rd w 1 A (names.map encNm)) (hAl : ∀ x, A = some x → x.block < w.heap.size) (hl : names.length = nn) (hn : nmsOk names = true) (hP : rulesP names t = some y) :
    Calls Tryz.prog 90 #[.string (bytesOf t), .slice A nn cn] w fun e w' => ∃ v, e = .returned (.tuple #[valRs v y.rest, .int .i64 0, .int .i64 0]) ∧ RsX w' (fun b => w.heap.size ≤ b) y.rules v ∧ Below w.heap.size w w' := by
  obtain ⟨hsz, hg⟩ := rulesP_some hP
  have hbs : (bytesOf t).size = t.length := bytesOf_size t
  have HN := Lib.hid (jNames_ok A nn cn names (w.alloc (.cells #[.slice none 0 0, .bool false] 41)) (hA.alloc _) hl hn)
  have HL := Lib.hid (fun W => oLines_any t W (by omega))
  have HE := Lib.hid (split_each t)
  have HO := Lib.hid (fun L p B x z W (h : RRx W p B A nn cn names x) (hL : L.length ≤ 16384) (hP : ruleLine names x L = some z) => (by
    obtain ⟨v, hv⟩ := h
    exact (oline_any L p B A nn cn names x z v W hv hn hL hP).mono fun e w' he => ⟨he.1, by obtain ⟨v', h1, h2, h3⟩ := he.2; exact ⟨⟨v', h1⟩, h2, h3⟩⟩ : Calls Tryz.prog 115 #[.pointer (some ⟨p, 0, none⟩), .string (bytesOf L)] W fun e w' => e = .returned (.int .i64 0) ∧ RRx w' p B A nn cn names z ∧ Below p W w' ∧ ∀ i, i < B → i ≠ p → w'.heap[i]? = W.heap[i]?))
  have HG := Lib.hid hg
  have HA := Lib.hid hA
  have HAl := Lib.hid hAl
  have Hl := Lib.hid hl
  have h16 : ¬ 16384 < t.length := by omega
  clear hA hAl hl hn hP hg
  go_enter Tryz.func90, Tryz.ntmps90
  go_wp2_with fail
  refine HN.out.mono ?_
  rintro e w1 ⟨rfl, q, rfl⟩
  have hB1 : Blk ((w.alloc (.cells #[.slice none 0 0, .bool false] 41)).drewN q) w.heap.size 41 #[.slice none 0 0, .bool false] := (Blk.new w _ _).drewN q
  have hb1 : Below w.heap.size w ((w.alloc (.cells #[.slice none 0 0, .bool false] 41)).drewN q) := below_drewN ((Below.refl w.heap.size w).alloc (Nat.le_refl _) _) q
  have hz1 : ((w.alloc (.cells #[.slice none 0 0, .bool false] 41)).drewN q).heap.size = w.heap.size + 1 := by simp
  generalize (w.alloc (.cells #[.slice none 0 0, .bool false] 41)).drewN q = V at hB1 hb1 hz1 ⊢
  have hP2 : Blk (V.alloc (.cells #[.slice A nn cn, .slice none 0 0, .bool true, .bool false] 122)) V.heap.size 122 #[.slice A nn cn, .slice none 0 0, .bool true, .bool false] := Blk.new _ _ _
  rw [hz1] at hP2
  have hB2 := hB1.alloc (.cells #[.slice A nn cn, .slice none 0 0, .bool true, .bool false] 122)
  have hb2 := hb1.alloc (by omega) (.cells #[.slice A nn cn, .slice none 0 0, .bool true, .bool false] 122)
  have hz2 : (V.alloc (.cells #[.slice A nn cn, .slice none 0 0, .bool true, .bool false] 122)).heap.size = w.heap.size + 2 := by simp; omega
  have HL2 := Lib.hid (HL.out (V.alloc (.cells #[.slice A nn cn, .slice none 0 0, .bool true, .bool false] 122)))
  clear HN HL hB1 hb1
  go_wp2_with fail
  refine HL2.out.mono ?_
  rintro e w3 ⟨AL, n, c, rfl, hol, hb3⟩
  have hP3 := hP2.below hb3
  have hB3 := hB2.below hb3
  have hbw3 := below_step hb2 hb3 (by omega)
  have hz3 := hb3.size
  have hnl : (splitL t).length = n := by have := hol.len; simpa using this
  have Hnl := Lib.hid hnl
  have hnz : n ≤ 16385 := by have := HE.out.1; omega
  have hRL := hol.rd (by decide)
  have hAL : ∀ a, AL = some a → w.heap.size + 2 ≤ a.block ∧ a.block < w3.heap.size := fun a ha => by have := hol.lt a ha; omega
  have hR3 : RRx w3 (w.heap.size + 1) w3.heap.size A nn cn names ⟨[], true, false⟩ := ⟨(none, 0, 0), hP3, HA.out.below hbw3, Hl.out, fun x hx => by have := HAl.out x hx; omega, by omega, Nat.le_refl _, [], Own.nil_ _ _ _ _, rfl, fun i r u hr _ => by simp at hr⟩
  clear HL2 hP2 hB2 hb2 hb3 hP3 hnl hol hz1
  go_wp2_with fail
  go_loopw [9, 10] (fun v9 _ wr => ∃ (i : Nat) (x : RsP), v9 = .int .i64 i ∧ i ≤ n ∧ RRx wr (w.heap.size + 1) w3.heap.size A nn cn names x ∧ Hid (rulesGo names ((splitL t).drop i) x = some y) ∧ Below (w.heap.size + 1) w3 wr ∧ ∀ k, k < w3.heap.size → k ≠ w.heap.size + 1 → wr.heap[k]? = w3.heap[k]?) (fun v9 _ _ => n - (intOf v9).toNat)
  case atStart => exact ⟨0, ⟨[], true, false⟩, rfl, by omega, hR3, HG, Below.refl _ _, fun _ _ _ => rfl⟩
  case round =>
    clear hR3
    obtain ⟨i, x, rfl, hi, hR, HGi, hbr, hkr⟩ := hrel
    have hRLr : Rd wr 1 AL ((splitL t).map encNm) := hRL.keep fun b off k u ha hc => by
      have := hAL _ ha
      rw [← hc]
      simp [World.cell?, hkr b this.2 (by simp only at this; omega)]
    by_cases hlt : i < n
    · obtain ⟨l, Hl2⟩ : ∃ l, Hid ((splitL t)[i]? = some l) := ⟨_, Lib.hid (List.getElem?_eq_getElem (by have := Hnl.out; omega))⟩
      obtain ⟨z, hz, hgz⟩ := rules_step HGi.out Hl2.out
      obtain ⟨b, off, rfl, hc⟩ := hRLr.atS Hl2.out
      have HO2 := Lib.hid (HO.out l _ _ x z wr hR (by have := HE.out.2 l (List.mem_of_getElem? Hl2.out); omega) hz)
      have HGz := Lib.hid hgz
      clear hz hgz hRLr
      go_wp2_with fail
      refine HO2.out.mono ?_
      rintro e w5 ⟨rfl, hR5, hb5, hk5⟩
      have hbr5 := hbr.trans hb5
      have hkr5 : ∀ k, k < w3.heap.size → k ≠ w.heap.size + 1 → w5.heap[k]? = w3.heap[k]? := fun k h1 h2 => (hk5 k h1 h2).trans (hkr k h1 h2)
      clear HO2 hR hb5 hk5 hbr hkr
      go_wp2
      go_roundw
      case rel => exact ⟨i + 1, z, by go_num, by omega, hR5, HGz, hbr5, hkr5⟩
      case measure => simp [intOf]; omega
    · obtain rfl : i = n := by omega
      obtain rfl := rules_end HGi.out (by have := Hnl.out; omega)
      obtain ⟨v, hv⟩ := hR
      obtain ⟨A1, n1, c1'⟩ := v
      have c1 := hv.blk.cell 1
      have c2 := hv.blk.cell 2
      simp only [List.getElem?_toArray, List.getElem?_cons_succ, List.getElem?_cons_zero] at c1 c2
      have hB4 : Blk wr w.heap.size 41 #[.slice none 0 0, .bool false] := (hbr.block _ (by omega)).trans hB3
      have z0 := hB4.cell 0
      have z1 := hB4.cell 1
      simp only [List.getElem?_toArray, List.getElem?_cons_succ, List.getElem?_cons_zero] at z0 z1
      have g0 := hB4.frozen 0
      have g1 := hB4.frozen 1
      have hk8 : wr.grownBy ((wr.setCell ⟨w.heap.size, 0, none⟩ (.slice A1 n1 c1')).setCell ⟨w.heap.size, 1, none⟩ (.bool x.rest)) (some w.heap.size) := only_setCell (only_setCell (only_refl _ _) (p := ⟨w.heap.size, 0, none⟩) (.inl rfl) _) (p := ⟨w.heap.size, 1, none⟩) (.inl rfl) _
      have hB8 := (hB4.set_ 0 (.slice A1 n1 c1')).set_ 1 (.bool x.rest)
      simp only [List.setIfInBounds_toArray, List.set_cons_zero, List.set_cons_succ] at hB8
      have HX : Hid (RsX ((wr.setCell ⟨w.heap.size, 0, none⟩ (.slice A1 n1 c1')).setCell ⟨w.heap.size, 1, none⟩ (.bool x.rest)) (fun b => w.heap.size ≤ b) x.rules (A1, n1, c1')) := Lib.hid (by
        obtain ⟨vs, ho, hvs, hru⟩ := hv.ex
        have hx1 : RsX wr (fun b => w.heap.size + 1 ≤ b) x.rules (A1, n1, c1') := ⟨vs, SlX.own ho (by decide) (fun a ha => by have := (ho.lt a ha).1; omega), hvs, fun i r u hr hu => (hru i r u hr hu).keep (KeepX.same (fun b h _ => by have := h.1; omega))⟩
        exact hx1.keep ((KeepX.grown hk8 (fun r hr h => by injection hr with hr; subst hr; omega)).trans (KeepX.same (fun b h _ => by omega))))
      have HB := Lib.hid ((hbw3.trans (hbr.mono (by omega))).trans (below_only hk8 (by have := hbr.size; omega) (Nat.le_refl _)))
      have HC : Hid (RuCell ((wr.setCell ⟨w.heap.size, 0, none⟩ (.slice A1 n1 c1')).setCell ⟨w.heap.size, 1, none⟩ (.bool x.rest)) w.heap.size (A1, n1, c1') x.rest) := Lib.hid ⟨hB8.cell 0, hB8.cell 1⟩
      clear hk8 hB8 hB4 hbr hkr hRLr hv
      go_wp2
      refine bodyPost_ret (res_parse8 _ w.heap.size (A1, n1, c1') x.rest _ rfl rfl rfl HC.out) rfl ?_
      exact ⟨_, rfl, HX.out, HB.out⟩
set_option maxRecDepth 100000 in
set_option maxHeartbeats 4000000 in
theorem vNames_any (base p x : Nat) (N : List (List UInt8)) (S : List (List (Int × Int))) (w : World) (h : RfB w base p x N S) (hz : N.length ≤ 64) :
    Calls Tryz.prog 91 #[.pointer (some ⟨p, 0, none⟩)] w fun e w' => ∃ A n c, e = .returned (.slice A n c) ∧ Own w' w.heap.size 9 1 A n c (N.map encNm) ∧ Below w.heap.size w w' := by
  obtain ⟨i0, hi0, hz0, hz1, hz2⟩ := info_parts info_cloneS
  obtain ⟨An, nn, cn, As, ns, cs, xs, hX⟩ := h.ex
  have hl := hX.lenN
  have Hl := Lib.hid hl
  have c0 := hX.blk.cell 0
  simp only [List.getElem?_toArray, List.getElem?_cons_zero] at c0
  have c0' := cell_alloc9 c0 (.cells #[] 9)
  have hA := hX.hn.rd (by decide)
  have hnz : nn ≤ 64 := by omega
  clear h hX hl hz
  go_enter Tryz.func91, Tryz.ntmps91
  go_wp2_with (at_builtin; go_must (refine wpList_app rfl (.tmp 3) (.tmp 7) _ rfl w.heap.size 9 i0 _ 1 16 Tryz.underlying69 hi0 hz0 hz1 hz2 rfl (by omega) (some ⟨w.heap.size, 0, none⟩) 0 0 [] rfl (Own.lit w w.heap.size 9 1 (Nat.le_refl _)) An nn cn (N.map encNm) rfl (by rw [List.length_map]; exact Hl.out) (hA.alloc _) (encNm_ok N) (by unfold maxLen; omega) (by omega) (by simp) ?_); intro A3 c3 w3 ho3 hg3 hA3)
  go_ret
  rw [Nat.zero_add] at ho3
  exact ⟨A3, nn, c3, rfl, by simpa using ho3, below_app ((Below.refl _ _).alloc (Nat.le_refl _) _) hg3 (by simp) (fun a ha => by injection ha with ha; subst ha; exact Nat.le_refl _)⟩
set_option maxRecDepth 100000 in
set_option maxHeartbeats 4000000 in
theorem bOf_any (t r : List UInt8) (d : DbP) (y : RsP) (w : World) (ht : t.length ≤ maxLen) (hd : newP t = .ok d) (hn : nmsOk d.names = true) (hr : rulesP d.names r = some y) :
    Calls Tryz.prog 62 #[.string (bytesOf t), .string (bytesOf r)] w fun e w' => ∃ pb, e = .returned (.pointer (some ⟨pb, 0, none⟩)) ∧ BrkB w' w.heap.size pb d y.rules y.rest ∧ Below w.heap.size w w' := by
  have HNw := vNew_any t w ht
  rw [hd] at HNw
  have HN := Lib.hid HNw
  have HV := Lib.hid (fun p x W (h : RfB W w.heap.size p x d.names d.full) => vNames_any w.heap.size p x d.names d.full W h (nms_len hn))
  have HO := Lib.hid (fun A nn cn W (hA : Rd W 1 A (d.names.map encNm)) (hAl : ∀ x, A = some x → x.block < W.heap.size) (hl : d.names.length = nn) => oParse_any r A nn cn d.names y W hA hAl hl hn hr)
  clear HNw hd hn hr ht
  go_enter Tryz.func62, Tryz.ntmps62
  go_wp2_with fail
  refine HN.out.mono ?_
  rintro e w1 ⟨⟨p, x, rfl, hf⟩, hb1⟩
  have HV1 := Lib.hid (HV.out p x w1 hf)
  go_wp2_with fail
  refine HV1.out.mono ?_
  rintro e w2 ⟨A, nn, cn, rfl, ho2, hb2⟩
  have HO2 := Lib.hid (HO.out A nn cn w2 (ho2.rd (by decide)) (fun x hx => (ho2.lt x hx).2) (by have := ho2.len; simpa using this))
  have hf2 := hf.below hb2
  have hb12 := below_two hb1 hb2
  clear HV1 HV HO HN hf ho2
  go_wp2_with fail
  refine HO2.out.mono ?_
  rintro e w3 ⟨v, rfl, hx3, hb3⟩
  have hf3 := hf2.below hb3
  have hb13 := below_two hb12 hb3
  obtain ⟨A1, n1, c1⟩ := v
  simp only [valRs]
  clear HO2 hf2 hb12 hb1 hb2 hb3
  go_wp2
  go_ret
  have hal : Below w3.heap.size w3 (w3.alloc (.cells #[.slice A1 n1 c1, .bool y.rest] 41)) := (Below.refl _ _).alloc (Nat.le_refl _) _
  have hal2 : Below w3.heap.size w3 ((w3.alloc (.cells #[.slice A1 n1 c1, .bool y.rest] 41)).alloc (.cells #[.pointer (some ⟨p, 0, none⟩), .slice A1 n1 c1, .bool y.rest] 43)) := hal.alloc (by simp) _
  refine ⟨_, rfl, ⟨p, x, n1, c1, A1, _, ?_, hf3.below hal2, hx3.below hal2⟩, below_two hb13 hal2⟩
  have := Blk.new (w3.alloc (.cells #[.slice A1 n1 c1, .bool y.rest] 41)) 43 #[.pointer (some ⟨p, 0, none⟩), .slice A1 n1 c1, .bool y.rest]
  simpa using this
end Go.Proofs.YtdnkignhenkamaaGreatDoor

/- -/
namespace Go.Proofs.YtdnkignhenkamaaGreatDoor
open Go.RowKit
theorem gS_lt (r : Int) : gS r < 14 := get_lt sentsOk.1 r
set_option maxRecDepth 100000 in
theorem sents_nms : nmsOk sentsD.names = true := by kernel_rfl
def okR (l : List RuleP) : Bool := l.all fun r => goodP 64 r.left && goodP 64 r.right && decide (sizeP r.left ≤ 2048) && decide (sizeP r.right ≤ 2048)
theorem okR_spec {l : List RuleP} (h : okR l = true) : ∀ r ∈ l, RuleOk r := fun r hr => by
  unfold okR at h
  rw [List.all_eq_true] at h
  have := h r hr
  simp only [Bool.and_eq_true, decide_eq_true_iff] at this
  exact ⟨this.1.1.1, this.1.1.2, this.1.2, this.2⟩
set_option maxRecDepth 100000 in
theorem rulesS_ok : ∀ r ∈ rulesS, RuleOk r := okR_spec (by kernel_rfl)
set_option maxRecDepth 100000 in
set_option maxHeartbeats 4000000 in
theorem dNew_any (w : World) : Calls Tryz.prog 49 #[] w fun e w' => ∃ pb, e = .returned (.pointer (some ⟨pb, 0, none⟩)) ∧ BrkB w' w.heap.size pb sentsD rulesS false ∧ Below w.heap.size w w' := by
  go_enter Tryz.func49, Tryz.ntmps49
  generalize hT : ByteArray.mk _ = T
  generalize hR : ByteArray.mk _ = R
  have HN : newP T.data.toList = .ok sentsD := by rw [← hT]; exact new_K (by kernel_rfl) (by kernel_rfl)
  have hTl : T.data.toList.length ≤ maxLen := by rw [← hT]; exact of_decide_eq_true (by kernel_rfl)
  have HR : rulesP sentsD.names R.data.toList = some ⟨rulesS, false, true⟩ := by rw [← hR]; kernel_rfl
  clear hT hR
  have HC := bOf_any T.data.toList R.data.toList sentsD ⟨rulesS, false, true⟩ w hTl HN sents_nms HR
  rw [show bytesOf T.data.toList = T from bytesOf_data T, show bytesOf R.data.toList = R from bytesOf_data R] at HC
  replace HC := Lib.hid HC
  clear HN hTl HR
  go_wp2_with fail
  refine HC.out.mono ?_
  rintro e w1 ⟨pb, rfl, hb, hb1⟩
  go_wp2
  go_ret
  exact ⟨pb, rfl, hb, hb1⟩
def boundsS (s : ByteArray) : List Nat := boundsX (fun c i => sCuts (toI c) i) gS s
theorem bBoundsS_any (base pb : Nat) (s : ByteArray) (w : World) (hB : BrkB w base pb sentsD rulesS false) (hs : s.size ≤ 90000) :
    Calls Tryz.prog 18 #[.pointer (some ⟨pb, 0, none⟩), .string s] w fun e w' => ∃ A k c, e = .returned (.slice A k c) ∧ Own w' w.heap.size 3 1 A k c ((boundsS s).map encN) ∧ Below w.heap.size w w' := by
  have := bBounds_any base pb sentsD rulesS false s w hB sentsOk.1 sentsOk.2.1 rulesS_ok (by decide) hs
  rw [show boundsR rulesS false sentsD.get s = boundsS s from bounds_sent gS_lt s] at this
  exact this
end Go.Proofs.YtdnkignhenkamaaGreatDoor

/- -/
namespace Go.Proofs.YtdnkignhenkamaaGreatDoor
open Go.RowKit
def NbAt (s : ByteArray) (f q i : Nat) (O : List Nat) : Prop :=
  ∃ R, R ++ runesGo s f q = runesP s ∧ R.length = i ∧ s.size ≤ q + f ∧ q ≤ s.size ∧ (i = 0 → q = 0 ∧ O = [0]) ∧ (0 < i → O = pickG R ((List.range i).map fun j => decide (j = 0) || sCuts (toI (clsG gS (runesP s))) j))
theorem nbAt_first (s : ByteArray) : NbAt s s.size 0 0 [0] := ⟨[], rfl, rfl, by omega, by omega, fun _ => ⟨rfl, rfl⟩, fun h => absurd h (by omega)⟩
theorem nbAt_next {s : ByteArray} {f q i W R : Nat} {O : List Nat} (h : NbAt s f q i O) (hp : q < s.size) (hd : Utf8.decode s q = (R, W)) (hw : 1 ≤ W ∧ q + W ≤ s.size) :
    ∃ f', NbAt s f' (q + W) (i + 1) (if i = 0 then O else O ++ (if sCuts (toI (clsG gS (runesP s))) i then [q] else [])) := by
  obtain ⟨L, h1, h2, h3, h4, h5, h6⟩ := h
  obtain ⟨f', rfl, hg⟩ := runesGo_step (s := s) (f := f) hp h3
  rw [hd] at hg
  refine ⟨f', L ++ [(R, q, q + W)], by rw [← h1, hg]; simp, by simp [h2], by omega, hw.2, fun h => by omega, fun _ => ?_⟩
  rw [List.range_succ, List.map_append, List.map_cons, List.map_nil, pickG_snoc _ _ _ _ (by simp [h2])]
  rcases Nat.eq_zero_or_pos i with h0 | h0
  · subst h0
    have hL : L = [] := List.eq_nil_of_length_eq_zero h2
    subst hL
    obtain ⟨hq, hO⟩ := h5 rfl
    rw [if_pos rfl, hO, hq]
    rfl
  · rw [if_neg (by omega), ← h6 h0, decide_eq_false (by omega), Bool.false_or]
theorem nbAt_end {s : ByteArray} {f q i : Nat} {O : List Nat} (h : NbAt s f q i O) (hp : ¬ q < s.size) (hs : 0 < s.size) : O ++ [s.size] = boundsS s := by
  obtain ⟨L, h1, h2, h3, h4, h5, h6⟩ := h
  rw [runesGo_end (by omega), List.append_nil] at h1
  subst h1
  unfold boundsS boundsX
  rw [if_neg (by omega)]
  rcases Nat.eq_zero_or_pos i with h0 | h0
  · have := (h5 h0).1; omega
  · rw [h6 h0, h2]
theorem nbAt_lt {s : ByteArray} {f q i : Nat} {O : List Nat} (h : NbAt s f q i O) (hp : q < s.size) : i < (runesP s).length := by
  obtain ⟨L, h1, h2, h3, h4, h5, h6⟩ := h
  obtain ⟨f', rfl, hg⟩ := runesGo_step (s := s) (f := f) hp h3
  rw [← h1, hg, List.length_append, h2]
  simp
set_option maxRecDepth 100000 in
set_option maxHeartbeats 8000000 in
theorem nBounds_any (s : ByteArray) (w : World) (hE : Env w) (hs : s.size ≤ 1000000) :
    Calls Tryz.prog 48 #[.string s] w fun e w' => ∃ A n c, e = .returned (.slice A n c) ∧ Own w' w.heap.size 3 1 A n c ((boundsS s).map encN) ∧ Below w.heap.size w w' := by
  obtain ⟨i0, hi0, hz0, hz1, hz2⟩ := info_parts infoInt
  by_cases h0 : 0 < s.size
  · have hem : s.toList.isEmpty = false := by
      rw [ByteArray.toList_eq]
      cases hq : s.data.toList with
      | nil => rw [← size_data, hq] at h0; simp at h0
      | cons a b => rfl
    have HD := Lib.hid (ndb_any w hE)
    obtain ⟨L, HL⟩ : ∃ L, Hid (clsG gS (runesP s) = L) := ⟨_, Lib.hid rfl⟩
    have hLz : L.length ≤ s.size := by rw [← HL.out]; unfold clsG; rw [List.length_map]; exact runesP_len s
    have HLr : Hid (L.length = (runesP s).length) := Lib.hid (by rw [← HL.out]; unfold clsG; rw [List.length_map])
    have HL14 : Hid (∀ x ∈ L, x < 14) := Lib.hid (fun x hx => by
      rw [← HL.out] at hx
      obtain ⟨u, _, rfl⟩ := List.mem_map.1 hx
      exact gS_lt _)
    clear hE
    go_enter Tryz.func48, Tryz.ntmps48
    go_wp2_with fail
    refine HD.out.mono ?_
    rintro e w1 ⟨p, rfl, hd, hb1⟩
    have HO := Lib.hid (wOf_any p sentsD s w1 hd sentsOk.1 sentsOk.2.1 hs)
    rw [show ofC sentsD s = L from HL.out] at HO
    go_wp2_with fail
    refine HO.out.mono ?_
    rintro e w2 ⟨B, nb, cb, rfl, hob, hb2⟩
    have hnb : L.length = nb := by have := hob.len; simpa using this
    have Hnb := Lib.hid hnb
    have hnz : nb ≤ 1000000 := by omega
    have rd := hob.rd (by decide)
    have hb3 := below_two hb1 hb2
    have hsz3 := hb3.size
    have HCt := Lib.hid (fun i W (hi0 : 0 < i) (hi : i < nb) (hb : Below w2.heap.size w2 W) => ncuts_any B nb cb L i W (rd.below hb) Hnb.out hi0 hi (by omega) HL14.out)
    clear HD HO hd hob hb1 hb2 hnb hLz rd
    have ho0 : Own ((w2.alloc (.cells #[.int .i64 0] 3)).iter s 0) w2.heap.size 3 1 (some ⟨w2.heap.size, 0, none⟩) 1 1 ([0].map encN) := (own_one (u := .int .i64 0) (t := 3) (w := w2) (Nat.le_refl _)).alloc _
    have hbz : Below w2.heap.size w2 ((w2.alloc (.cells #[.int .i64 0] 3)).iter s 0) := below_iter ((Below.refl _ _).alloc (Nat.le_refl _) _) (by simp) _ _
    have hit0 : ((w2.alloc (.cells #[.int .i64 0] 3)).iter s 0).heap[w2.heap.size + 1]? = some (.stringIter s 0) := by have := iter_new (w2.alloc (.cells #[.int .i64 0] 3)) s 0; simpa using this
    have HG0 := Lib.hid (nbAt_first s)
    go_wp2_with fail
    go_loopw [4, 5, 6] (fun v4 v5 v6 wr => ∃ (q f i : Nat) (A : Option Addr) (n c : Nat) (O : List Nat), v4 = .slice A n c ∧ v5 = .int .i64 i ∧
      wr.heap[w2.heap.size + 1]? = some (.stringIter s q) ∧ Own wr w2.heap.size 3 1 A n c (O.map encN) ∧ (∀ a, A = some a → a.block ≠ w2.heap.size + 1) ∧ n ≤ i + 1 ∧ i ≤ q ∧ q ≤ s.size ∧ Hid (NbAt s f q i O) ∧ Below w2.heap.size w2 wr) (fun _ _ _ wr => s.size - wr.iterPos (w2.heap.size + 1))
    case atStart => exact ⟨0, s.size, 0, _, _, _, [0], rfl, rfl, hit0, ho0, fun a ha => by injection ha with ha; subst ha; simp, by omega, by omega, by omega, HG0, hbz⟩
    case round =>
      clear hit0 ho0 hbz HG0
      obtain ⟨q, f, i, A, n, c, O, rfl, rfl, hit, ho, hA, hni, hiq, hqs, HG, hb⟩ := hrel
      have Hpos := Lib.hid (iterPos_of hit)
      by_cases hp : q < s.size
      · obtain ⟨⟨R, W⟩, HDc⟩ : ∃ d, Utf8.decode s q = d := ⟨_, rfl⟩
        have hd := dec_bd s q hp
        have hnx : ∀ ty, (Instr.next (.pointer (some ⟨w2.heap.size + 1, 0, none⟩)) true ty).run Tryz.prog wr = _ := fun ty => Lib.run_next_any_at wr (w2.heap.size + 1) s q ty hit hp
        have hit2 := Lib.iterAt_heap wr (w2.heap.size + 1) s q (q + (Utf8.decode s q).2) hit
        have hb2 := Lib.below_iterAt hb (k := w2.heap.size + 1) (by omega) s (q + (Utf8.decode s q).2)
        have ho2 := ho.keep (w' := wr.iterAt (w2.heap.size + 1) s (q + (Utf8.decode s q).2)) fun a ha => Lib.iterAt_other wr (w2.heap.size + 1) a.block s _ (hA a ha)
        have hsz2 : w2.heap.size + 1 < (wr.iterAt (w2.heap.size + 1) s (q + (Utf8.decode s q).2)).heap.size := (Array.getElem?_eq_some_iff.1 hit2).1
        rw [HDc] at hd hnx hit2 hb2 ho2 hsz2
        simp only at hd hnx hit2 hb2 ho2 hsz2
        have hin : i < nb := by have := nbAt_lt HG.out hp; have := Hnb.out; have := HLr.out; omega
        obtain ⟨g, hN⟩ := nbAt_next HG.out hp HDc (by omega)
        rw [HL.out] at hN
        have HN := Lib.hid hN
        clear hN HDc HG ho hit hb
        generalize wr.iterAt (w2.heap.size + 1) s (q + W) = w4 at hnx hit2 hb2 ho2 hsz2
        by_cases hiz : i = 0
        · subst hiz
          have HN2 : Hid (NbAt s g (q + W) 1 O) := HN
          go_wp2
          go_roundw
          case rel => exact ⟨q + W, g, 1, A, n, c, O, rfl, rfl, hit2, ho2, hA, by omega, by omega, by omega, HN2, hb2⟩
          case measure => rw [iterPos_of hit2, Hpos.out]; omega
        · have hi1 : 0 < i := by omega
          have hi1' : (0 : Int) < (i : Int) := by omega
          have hi1'' : (i : Int) > 0 := by omega
          have HC := Lib.hid (HCt.out i w4 hi1 hin hb2)
          have hN := HN.out
          rw [if_neg hiz] at hN
          clear HN
          cases hc : sCuts (toI L) i with
          | false =>
            rw [hc] at HC hN
            have HN2 : Hid (NbAt s g (q + W) (i + 1) O) := Lib.hid (by simpa using hN)
            clear hN hc
            go_wp2_with fail
            refine HC.out.mono ?_
            rintro e w5 ⟨rfl, hb5⟩
            have hit5 : w5.heap[w2.heap.size + 1]? = some (.stringIter s (q + W)) := (hb5.block _ hsz2).trans hit2
            have ho5 := ho2.below hb5
            have hb25 := below_step hb2 hb5 (by omega)
            go_wp2
            go_roundw
            case rel => exact ⟨q + W, g, i + 1, A, n, c, O, rfl, by go_num, hit5, ho5, hA, by omega, by omega, by omega, HN2, hb25⟩
            case measure => rw [iterPos_of hit5, Hpos.out]; omega
          | true =>
            rw [hc] at HC hN
            have HN2 : Hid (NbAt s g (q + W) (i + 1) (O ++ [q])) := Lib.hid (by simpa using hN)
            clear hN hc
            go_wp2_with fail
            refine HC.out.mono ?_
            rintro e w5 ⟨rfl, hb5⟩
            have hit5 : w5.heap[w2.heap.size + 1]? = some (.stringIter s (q + W)) := (hb5.block _ hsz2).trans hit2
            have ho5 := ho2.below hb5
            have hb25 := below_step hb2 hb5 (by omega)
            have hsz5 : w2.heap.size + 1 < w5.heap.size := Nat.lt_of_lt_of_le hsz2 hb5.size
            go_wp2_with (at_builtin; go_must (refine wpList_app rfl (.tmp 25) (.tmp 27) _ rfl w2.heap.size 3 i0 _ 1 8 Tryz.underlying23 hi0 hz0 hz1 hz2 rfl (by omega) A n c (O.map encN) rfl (ho5.alloc _) _ 1 1 [encN q] rfl rfl (Rd.newAt (by simp) rfl) (encN_ok [q]) (by unfold maxLen; omega) (by omega) (by simp; omega) ?_); intro A3 c3 w6 ho6 hg6 hA6)
            have hb6 := below_app (hb25.alloc (by omega) _) hg6 (by simp; omega) (fun a ha => (ho5.lt a ha).1)
            have hit6 : w6.heap[w2.heap.size + 1]? = some (.stringIter s (q + W)) := (hg6.block (w2.heap.size + 1) (by simp; omega) (fun e => by cases A with | none => cases e | some a => simp at e; exact hA a rfl e.symm)).trans ((Below.heap_alloc _ _ _ hsz5).trans hit5)
            have hA7 : ∀ a, A3 = some a → a.block ≠ w2.heap.size + 1 := fun a ha => by
              rcases hA6 with e | e
              · exact hA a (by rw [← e]; exact ha)
              · rw [e] at ha; injection ha with ha; subst ha; simp; omega
            go_roundw
            case rel => exact ⟨q + W, g, i + 1, A3, n + 1, c3, O ++ [q], rfl, by go_num, hit6, by rw [List.map_append]; exact ho6, hA7, by omega, by omega, by omega, HN2, hb6⟩
            case measure => rw [iterPos_of hit6, Hpos.out]; omega
      · have hnx : ∀ ty, (Instr.next (.pointer (some ⟨w2.heap.size + 1, 0, none⟩)) true ty).run Tryz.prog wr = _ := fun ty => Lib.run_next_end_at wr (w2.heap.size + 1) s q ty hit hp
        have HE := Lib.hid (nbAt_end HG.out hp h0)
        have hszr := hb.size
        go_wp2_with (at_builtin; go_must (refine wpList_app rfl (.tmp 31) (.tmp 34) _ rfl w2.heap.size 3 i0 _ 1 8 Tryz.underlying23 hi0 hz0 hz1 hz2 rfl (by omega) A n c (O.map encN) rfl (ho.alloc _) _ 1 1 [encN s.size] rfl rfl (Rd.newAt (by simp) rfl) (encN_ok [s.size]) (by unfold maxLen; omega) (by omega) (by simp; omega) ?_); intro A3 c3 w5 ho5 hg5 hA5)
        have hb5 := below_app (hb.alloc (by omega) _) hg5 (by simp; omega) (fun a ha => (ho.lt a ha).1)
        go_ret
        exact ⟨A3, n + 1, c3, rfl, by rw [← HE.out, List.map_append]; exact ho5.more hsz3, below_step hb3 hb5 hsz3⟩
  · have hem : s.toList.isEmpty = true := by
      rw [ByteArray.toList_eq]
      have : s.data.toList.length = 0 := by rw [size_data]; omega
      rw [List.length_eq_zero_iff.1 this]; rfl
    have HV : Hid (boundsS s = []) := Lib.hid (by unfold boundsS boundsX; rw [if_pos (by omega)])
    go_enter Tryz.func48, Tryz.ntmps48
    go_wp2
    go_ret
    exact ⟨none, 0, 0, rfl, by rw [HV.out]; exact Own.nil_ _ _ _ _, Below.refl _ _⟩
theorem boundsS_len (s : ByteArray) : (boundsS s).length ≤ s.size + 1 := by
  unfold boundsS boundsX
  split
  · simp
  · rw [List.length_append, pick_filter (runesP s).length (runesP s) _ rfl (by simp), List.length_map]
    have h1 := List.length_filter_le (fun i => ((List.range (runesP s).length).map fun i => decide (i = 0) || sCuts (toI (clsG gS (runesP s))) i).getD i false) (List.range (runesP s).length)
    rw [List.length_range] at h1
    have h2 := runesP_len s
    simp only [List.length_singleton]
    omega
end Go.Proofs.YtdnkignhenkamaaGreatDoor

/- -/
namespace Go.Proofs.YtdnkignhenkamaaGreatDoor
open Go.RowKit Go.Shelf
attribute [local go_sem] Oper.semAt_some
theorem boundsX_mem {s : ByteArray} {a : Nat} {t : List Bool} (h : a ∈ pickG (runesP s) t) : a < s.size := by
  obtain ⟨k, y, h1, _, rfl⟩ := pickG_mem.1 h
  have := runesP_bd y (List.mem_of_getElem? h1); omega
theorem boundsS_le (s : ByteArray) : ∀ a ∈ boundsS s, a ≤ s.size := fun a ha => by
  unfold boundsS boundsX at ha
  split at ha
  · cases ha
  · rcases List.mem_append.1 ha with h | h
    · exact Nat.le_of_lt (boundsX_mem h)
    · rw [List.mem_singleton] at h; omega
theorem boundsS_rise (s : ByteArray) : (boundsS s).Pairwise (· < ·) := by
  unfold boundsS boundsX
  split
  · exact .nil
  · rw [List.pairwise_append]
    exact ⟨pick_rise (runes_rise s), by simp, fun a ha b hb => by simp at hb; subst hb; exact boundsX_mem ha⟩
def countS (s : ByteArray) : Nat := (boundsS s).length - 1
def nextS (s : ByteArray) (x : Int) : Nat := ((boundsS s).find? fun (a : Nat) => decide (x < (a : Int))).getD s.size
def isS (s : ByteArray) (x : Int) : Bool := ((boundsS s).map fun (a : Nat) => (a : Int)).contains x
set_option maxRecDepth 100000 in
set_option maxHeartbeats 2000000 in
theorem nCount_any (s : ByteArray) (w : World) (hE : Env w) (hs : s.size ≤ 1000000) :
    Calls Tryz.prog 50 #[.string s] w fun e w' => e = .returned (.int .i64 (countS s : Nat)) ∧ Below w.heap.size w w' := by
  have HB := Lib.hid (nBounds_any s w hE hs)
  have HL := Lib.hid (boundsS_len s)
  clear hE
  go_enter Tryz.func50, Tryz.ntmps50
  go_wp2_with fail
  refine HB.out.mono ?_
  rintro e w1 ⟨A, n, c, rfl, ho, hb1⟩
  have hn : (boundsS s).length = n := by have := ho.len; simpa using this
  have HV : Hid (countS s = n - 1) := Lib.hid (by unfold countS; rw [hn])
  have hz : n ≤ 1000001 := by have := HL.out; omega
  clear hn ho
  cases n with
  | zero =>
    go_wp2
    go_ret
    exact ⟨by rw [HV.out]; rfl, hb1⟩
  | succ k =>
    have HV2 : Hid (countS s = k) := Lib.hid (by rw [HV.out]; rfl)
    have e1 : ((k + 1 : Nat) : Int) - 1 = (k : Int) := by omega
    have e2 : IntKind.i64.wrap (((k + 1 : Nat) : Int) - 1) = (k : Int) := by rw [e1]; exact IntWalk.i64_in _ (by omega)
    have e3 : max (k : Int) 0 = (k : Int) := by omega
    go_wp2
    go_ret
    exact ⟨by rw [HV2.out]; rfl, hb1⟩
set_option maxRecDepth 100000 in
set_option maxHeartbeats 2000000 in
theorem nIs_any (s : ByteArray) (x : Int) (w : World) (hE : Env w) (hs : s.size ≤ 1000000) :
    Calls Tryz.prog 43 #[.string s, .int .i64 x] w fun e w' => e = .returned (.bool (isS s x)) ∧ Below w.heap.size w w' := by
  have HB := Lib.hid (nBounds_any s w hE hs)
  have HL := Lib.hid (boundsS_len s)
  clear hE
  go_enter Tryz.func43, Tryz.ntmps43
  go_wp2_with fail
  refine HB.out.mono ?_
  rintro e w1 ⟨A, n, c, rfl, ho, hb1⟩
  have hn : (boundsS s).length = n := by have := ho.len; simpa using this
  have HS := Lib.hid (search_own x ho (boundsS_rise s) (by have := HL.out; omega))
  clear hn ho
  obtain ⟨v, HV⟩ : ∃ v, Hid (isS s x = v) := ⟨_, Lib.hid rfl⟩
  have HV2 := HV.out
  unfold isS at HV2
  rw [HV2] at HS
  clear HV2
  go_wp2_with fail
  refine HS.out.mono ?_
  rintro e w2 ⟨⟨k, rfl⟩, hb2⟩
  go_wp2
  go_ret
  exact ⟨by rw [HV.out]; rfl, below_two hb1 hb2⟩
set_option maxRecDepth 100000 in
set_option maxHeartbeats 2000000 in
theorem nNext_any (s : ByteArray) (x : Int) (w : World) (hE : Env w) (hs : s.size ≤ 1000000) :
    Calls Tryz.prog 57 #[.string s, .int .i64 x] w fun e w' => e = .returned (.int .i64 (nextS s x : Nat)) ∧ Below w.heap.size w w' := by
  have HB := Lib.hid (nBounds_any s w hE hs)
  have HL := Lib.hid (boundsS_len s)
  clear hE
  go_enter Tryz.func57, Tryz.ntmps57
  go_wp2_with fail
  refine HB.out.mono ?_
  rintro e w1 ⟨A, n, c, rfl, ho, hb1⟩
  have hn : (boundsS s).length = n := by have := ho.len; simpa using this
  have Hn := Lib.hid hn
  have hz : n ≤ 1000001 := by have := HL.out; omega
  have rd := ho.rd (by decide)
  clear hn ho
  go_wp2_with fail
  go_loopw [10] (fun v wr => ∃ i : Nat, v = .int .i64 i ∧ i ≤ n ∧ wr = w1 ∧ Hid (nextS s x = (((boundsS s).drop i).find? fun (a : Nat) => decide (x < (a : Int))).getD s.size)) (fun v _ => n - (intOf v).toNat)
  case atStart => exact ⟨0, rfl, by omega, rfl, Lib.hid rfl⟩
  case round =>
    obtain ⟨i, rfl, hi, rfl, HN⟩ := hrel
    by_cases hlt : i < n
    · obtain ⟨y, Hy⟩ : ∃ y, Hid ((boundsS s)[i]? = some y) := ⟨_, Lib.hid (List.getElem?_eq_getElem (by have := Hn.out; omega))⟩
      obtain ⟨b, off, rfl, cy⟩ := rd.atP' Hy.out
      have hdr : (boundsS s).drop i = y :: (boundsS s).drop (i + 1) := by rw [List.drop_eq_getElem_cons (by have := Hn.out; omega)]; rw [(List.getElem?_eq_some_iff.1 Hy.out).2]
      have HN2 := HN.out
      rw [hdr, List.find?_cons] at HN2
      clear hdr HN
      cases hq : decide (x < (y : Int)) with
      | true =>
        rw [hq] at HN2
        have HN3 : Hid (nextS s x = y) := Lib.hid HN2
        have hq2 : ((y : Int) > x) = True := eq_true (of_decide_eq_true hq)
        clear HN2
        go_wp2
        go_ret
        exact ⟨by rw [HN3.out]; rfl, hb1⟩
      | false =>
        rw [hq] at HN2
        have HN3 := Lib.hid HN2
        clear HN2
        go_wp2
        go_roundw
        case rel => exact ⟨i + 1, by go_num, by omega, by first | rfl | trivial, HN3⟩
        case measure => simp [intOf]; omega
    · obtain rfl : i = n := by omega
      have HN2 : Hid (nextS s x = s.size) := Lib.hid (by rw [HN.out, List.drop_eq_nil_of_le (by have := Hn.out; omega)]; rfl)
      go_wp2
      go_ret
      exact ⟨by rw [HN2.out]; rfl, hb1⟩
set_option maxRecDepth 100000 in
set_option maxHeartbeats 2000000 in
theorem nPrev_any (s : ByteArray) (x : Int) (w : World) (hE : Env w) (hs : s.size ≤ 1000000) :
    Calls Tryz.prog 58 #[.string s, .int .i64 x] w fun e w' => e = .returned (.int .i64 (belowL (boundsS s) x : Nat)) ∧ Below w.heap.size w w' := by
  have HB := Lib.hid (nBounds_any s w hE hs)
  have hL := boundsS_len s
  generalize boundsS s = L at HB hL ⊢
  clear hE
  go_enter Tryz.func58, Tryz.ntmps58
  go_wp2_with fail
  refine HB.out.mono ?_
  rintro e w1 ⟨A, n, c, rfl, ho, hb1⟩
  have hn : L.length = n := by have := ho.len; simpa using this
  have Hn := Lib.hid hn
  have hz : n ≤ 1000001 := by omega
  have rd := ho.rd (by decide)
  clear hn ho
  go_wp2_with fail
  go_loopw [5, 7, 11] (fun u _ v wr => ∃ i k : Nat, v = .int .i64 i ∧ u = .int .i64 k ∧ i ≤ n ∧ wr = w1 ∧ Hid (belowL (L.take i) x = k)) (fun _ _ v _ => n - (intOf v).toNat)
  case atStart => exact ⟨0, 0, rfl, rfl, by omega, rfl, Lib.hid rfl⟩
  case round =>
    obtain ⟨i, k, rfl, rfl, hi, rfl, HN⟩ := hrel
    by_cases hlt : i < n
    · obtain ⟨y, Hy⟩ : ∃ y, Hid (L[i]? = some y) := ⟨_, Lib.hid (List.getElem?_eq_getElem (by have := Hn.out; omega))⟩
      obtain ⟨b, off, rfl, cy⟩ := rd.atP' Hy.out
      have HN2 := belowL_step (x := x) Hy.out
      by_cases hq : (y : Int) < x
      · rw [if_pos hq] at HN2
        have HN3 := Lib.hid HN2
        clear HN2
        go_wp2
        go_roundw
        case rel => exact ⟨i + 1, y, by go_num, rfl, by omega, by first | rfl | trivial, HN3⟩
        case measure => simp [intOf]; omega
      · rw [if_neg hq, HN.out] at HN2
        have HN3 := Lib.hid HN2
        clear HN2
        go_wp2
        go_roundw
        case rel => exact ⟨i + 1, k, by go_num, rfl, by omega, by first | rfl | trivial, HN3⟩
        case measure => simp [intOf]; omega
    · obtain rfl : i = n := by omega
      have HN2 : Hid (belowL L x = k) := Lib.hid (by rw [← HN.out, List.take_of_length_le (by have := Hn.out; omega)])
      go_wp2
      go_ret
      exact ⟨by rw [HN2.out]; rfl, hb1⟩
set_option maxRecDepth 100000 in
theorem nEach_any (s : ByteArray) (w : World) : Calls Tryz.prog 45 #[.string s] w fun e w' => ∃ bs, e = .returned (.func (.func 78) #[] #[.pointer (some ⟨bs, 0, none⟩)]) ∧ w'.cell? ⟨bs, 0, none⟩ = some (.string s) ∧ Below w.heap.size w w' := by
  have hmf : ∀ (fn : Fn) (first cap : Array Value) (w : World), (Instr.makeFunc fn first cap).run Tryz.prog w = .ok (.func fn first cap) w := fun _ _ _ _ => rfl
  go_enter Tryz.func45, Tryz.ntmps45
  go_wp2
  go_ret
  exact ⟨_, rfl, (Blk.new w 9 #[.string s]).cell 0, (Below.refl _ _).alloc (Nat.le_refl _) _⟩
set_option maxRecDepth 100000 in
set_option maxHeartbeats 4000000 in
theorem nEach_seq (n : Nat) (hn : 1 ≤ n) (w : World) (s : ByteArray) (bs : Nat) (X : Nat → Prop) (hX : ∀ b, X b → b < w.heap.size) (hE : Env w) (hs : s.size ≤ 1000000) (h : w.cell? ⟨bs, 0, none⟩ = some (.string s)) :
    SeqStopsK Fence.wide n Tryz.prog 78 #[.pointer (some ⟨bs, 0, none⟩)] (encCl s) (KT 3 X) (fun ys => ys = piecesF (boundsS s)) (fun pre => pre <+: piecesF (boundsS s)) (piecesF (boundsS s)).length w := by
  intro l J Jx W hW hJ _ hY h0
  have hc1 : W.cell? ⟨bs, 0, none⟩ = some (.string s) := cell_keep h hW
  have hWz := hW.size
  have HB := Lib.hid (nBounds_any s W (hE.below hW) hs)
  have HL := Lib.hid (boundsS_len s)
  have HP := Lib.hid (piecesF_le (boundsS_rise s) (boundsS_le s))
  clear hE h
  refine callsIn_of_wp Tryz.func78 rfl trivial ?_ rfl
  simp only [Tryz.ntmps78, List.size_toArray, List.length_cons, List.length_nil, Nat.reduceAdd, Nat.reduceSub, Array.replicate_succ, Array.replicate_zero, List.push_toArray, List.append_toArray, List.nil_append, List.cons_append]
  refine wpIn_wide.2 ?_
  go_wp2_with fail
  refine HB.out.mono ?_
  rintro e w1 ⟨A, m, c, rfl, ho, hb1⟩
  have hJ1 : J [] w1 := abides_below hJ h0 hb1
  have hm : (boundsS s).length = m := by have := ho.len; simpa using this
  have hz : m ≤ 1000001 := by have := HL.out; omega
  have Hm := Lib.hid hm
  clear hm
  go_wp2_with fail
  refine (wpIn_wide (n := n)).1 ?_
  gi_loopw [4] (fun v wr => ∃ k j : Nat, v = .int .i64 (j : Int) ∧ Hid (j = k + 1) ∧ (k = 0 ∨ k + 1 ≤ m) ∧ J ((piecesF (boundsS s)).take k) wr ∧ Own wr W.heap.size 3 1 A m c ((boundsS s).map encN)) (fun v _ => m + 1 - (intOf v).toNat)
  case atStart => exact ⟨0, 1, rfl, Lib.hid rfl, .inl rfl, hJ1, ho⟩
  case round =>
    obtain ⟨k, j, rfl, HJ, hk, hJr, hor⟩ := hrel
    by_cases hlt : j < m
    · have hjm : k + 1 < m := by have := HJ.out; omega
      have rd := hor.rd (by decide)
      obtain ⟨x, Hx⟩ : ∃ x, Hid ((boundsS s)[k]? = some x) := ⟨_, Lib.hid (List.getElem?_eq_getElem (by have := Hm.out; omega))⟩
      obtain ⟨y, Hy⟩ : ∃ y, Hid ((boundsS s)[k + 1]? = some y) := ⟨_, Lib.hid (List.getElem?_eq_getElem (by have := Hm.out; omega))⟩
      obtain ⟨b, off, rfl, cx⟩ := Rd.atQ rd Hx.out
      obtain ⟨b', off', e2, cy⟩ := Rd.atQ rd Hy.out
      injection e2 with e2
      injection e2 with e2 e3
      subst e2 e3
      have hat := piecesF_at _ k x y Hx.out Hy.out
      have hcl : clP s (x, y) = (x, y) := clP_in (HP.out _ (List.mem_of_getElem? hat))
      have hp : (piecesF (boundsS s)).take k ++ [(x, y)] = (piecesF (boundsS s)).take (k + 1) := by
        rw [List.take_add_one, hat]; rfl
      have hlen : ((piecesF (boundsS s)).take k).length < (piecesF (boundsS s)).length := by
        rw [List.length_take, piecesF_len, Hm.out]; omega
      have e4 : (j : Int) - 1 = (k : Int) := by have := HJ.out; omega
      have e5 : IntKind.i64.wrap ((j : Int) - 1) = (k : Int) := by rw [e4]; exact IntWalk.i64_in _ (by omega)
      have e6 : IntKind.i64.wrap (k : Int) = (k : Int) := IntWalk.i64_in _ (by omega)
      have hk0 : (0 : Int) ≤ (k : Int) := by omega
      have hkm : (k : Int) < (m : Int) := by omega
      have hkN : k < m := by omega
      have hjN : j < m := by omega
      have hj0 : (0 : Int) ≤ (j : Int) := by omega
      have hj1 : (j : Int) < (m : Int) := by omega
      have cy : wr.cell? ⟨b, off + j, none⟩ = some (.int .i64 (y : Nat)) := by rw [HJ.out]; exact cy
      have hYW := YieldAt.mono (R' := fun e W' => ∃ q : Bool, e = .returned (.bool q) ∧ (q = true → J ((piecesF (boundsS s)).take (k + 1)) W' ∧ KT 3 X wr.drew W') ∧ (q = false → Jx ((piecesF (boundsS s)).take (k + 1)) W')) (hY _ (x, y) wr.drew (abides_below hJ hJr (Below.refl _ _).drew) hlen) (by
        rw [hp]
        rintro e W' (⟨h1, h2, h3⟩ | ⟨h1, h2⟩)
        · exact ⟨true, h1, fun _ => ⟨h2, h3⟩, fun h => absurd h (by decide)⟩
        · exact ⟨false, h1, fun h => absurd h (by decide), fun _ => h2⟩)
      obtain ⟨fn, tmps, assign, body, hy, hR⟩ := hYW
      dsimp only [encCl] at hy
      rw [hcl] at hy
      dsimp only [encP2] at hy
      clear hat hcl hlen hjm
      have hmx : Tryz.prog.follows .mixedOrders = true := by kernel_rfl
      gi_wp2_with fail
      gi_region_with_o (refine hR.mono ?_; rintro e W4 ⟨q, rfl, hqt, hqf⟩)
      all_goals
        cases q with
        | true =>
          obtain ⟨hJ4, hk4⟩ := hqt rfl
          gi_wp2_with fail
          go_roundw
          case rel => exact ⟨k + 1, j + 1, by go_num, Lib.hid (by rw [HJ.out]), .inr (by have := HJ.out; omega), hJ4, hk4.own hor (fun b hb => Nat.lt_of_lt_of_le (hX b hb) hWz)⟩
          case measure => simp [intOf]; omega
        | false =>
          have hJ4 := hqf rfl
          gi_wp2
          refine bodyPost_ret (results_none rfl _ _ _) rfl ?_
          exact ⟨⟨_, rfl⟩, .inr ⟨_, List.take_prefix _ _, hJ4⟩⟩
    · have hend : (piecesF (boundsS s)).take k = piecesF (boundsS s) := List.take_of_length_le (by have := HJ.out; rw [piecesF_len, Hm.out]; omega)
      rw [hend] at hJr
      gi_wp2
      go_end0
      first | exact ⟨⟨_, rfl⟩, .inl hJr⟩ | exact ⟨⟨_, rfl⟩, .inl ⟨_, rfl, hJr⟩⟩
set_option maxRecDepth 100000 in
theorem nBack_any (s : ByteArray) (w : World) : Calls Tryz.prog 51 #[.string s] w fun e w' => ∃ bs, e = .returned (.func (.func 83) #[] #[.pointer (some ⟨bs, 0, none⟩)]) ∧ w'.cell? ⟨bs, 0, none⟩ = some (.string s) ∧ Below w.heap.size w w' := by
  have hmf : ∀ (fn : Fn) (first cap : Array Value) (w : World), (Instr.makeFunc fn first cap).run Tryz.prog w = .ok (.func fn first cap) w := fun _ _ _ _ => rfl
  go_enter Tryz.func51, Tryz.ntmps51
  go_wp2
  go_ret
  exact ⟨_, rfl, (Blk.new w 9 #[.string s]).cell 0, (Below.refl _ _).alloc (Nat.le_refl _) _⟩
set_option maxRecDepth 100000 in
set_option maxHeartbeats 4000000 in
theorem nBack_seq (n : Nat) (hn : 1 ≤ n) (w : World) (s : ByteArray) (bs : Nat) (X : Nat → Prop) (hX : ∀ b, X b → b < w.heap.size) (hE : Env w) (hs : s.size ≤ 1000000) (h : w.cell? ⟨bs, 0, none⟩ = some (.string s)) :
    SeqStopsK Fence.wide n Tryz.prog 83 #[.pointer (some ⟨bs, 0, none⟩)] (encCl s) (KT 3 X) (fun ys => ys = piecesB (boundsS s)) (fun pre => pre <+: piecesB (boundsS s)) (piecesB (boundsS s)).length w := by
  intro l J Jx W hW hJ _ hY h0
  have hc1 : W.cell? ⟨bs, 0, none⟩ = some (.string s) := cell_keep h hW
  have hWz := hW.size
  have HB := Lib.hid (nBounds_any s W (hE.below hW) hs)
  have HL := Lib.hid (boundsS_len s)
  have HP := Lib.hid (piecesB_le (boundsS_rise s) (boundsS_le s))
  clear hE h
  refine callsIn_of_wp Tryz.func83 rfl trivial ?_ rfl
  simp only [Tryz.ntmps83, List.size_toArray, List.length_cons, List.length_nil, Nat.reduceAdd, Nat.reduceSub, Array.replicate_succ, Array.replicate_zero, List.push_toArray, List.append_toArray, List.nil_append, List.cons_append]
  refine wpIn_wide.2 ?_
  go_wp2_with fail
  refine HB.out.mono ?_
  rintro e w1 ⟨A, m, c, rfl, ho, hb1⟩
  have hJ1 : J [] w1 := abides_below hJ h0 hb1
  have hm : (boundsS s).length = m := by have := ho.len; simpa using this
  have hz : m ≤ 1000001 := by have := HL.out; omega
  have Hm := Lib.hid hm
  clear hm
  go_wp2_with fail
  refine (wpIn_wide (n := n)).1 ?_
  gi_loopw [4] (fun v wr => ∃ i : Nat, v = .int .i64 ((i : Int) - 1) ∧ i ≤ m ∧ J ((piecesB (boundsS s)).take (m - i)) wr ∧ Own wr W.heap.size 3 1 A m c ((boundsS s).map encN)) (fun v _ => (intOf v).toNat)
  case atStart => exact ⟨m, rfl, Nat.le_refl _, by rw [Nat.sub_self]; exact hJ1, ho⟩
  case round =>
    obtain ⟨i, rfl, hi, hJr, hor⟩ := hrel
    by_cases hlt : 1 < i
    · obtain ⟨j, hj⟩ : ∃ j, i = j + 1 := ⟨i - 1, by omega⟩
      obtain ⟨k, hk⟩ : ∃ k, j = k + 1 := ⟨j - 1, by omega⟩
      have rd := hor.rd (by decide)
      obtain ⟨x, Hx⟩ : ∃ x, Hid ((boundsS s)[k]? = some x) := ⟨_, Lib.hid (List.getElem?_eq_getElem (by have := Hm.out; omega))⟩
      obtain ⟨y, Hy⟩ : ∃ y, Hid ((boundsS s)[k + 1]? = some y) := ⟨_, Lib.hid (List.getElem?_eq_getElem (by have := Hm.out; omega))⟩
      obtain ⟨b, off, rfl, cx⟩ := Rd.atQ rd Hx.out
      obtain ⟨b', off', e2, cy⟩ := Rd.atQ rd Hy.out
      injection e2 with e2
      injection e2 with e2 e3
      subst e2 e3
      have hat := piecesB_at _ k x y Hx.out Hy.out
      have hcl : clP s (x, y) = (x, y) := clP_in (HP.out _ (List.mem_of_getElem? hat))
      have hp : (piecesB (boundsS s)).take (m - i) ++ [(x, y)] = (piecesB (boundsS s)).take (m - j) := by
        rw [show m - j = m - i + 1 by omega, List.take_add_one]
        rw [Hm.out, show m - 2 - k = m - i by omega] at hat
        rw [hat]; rfl
      have hlen : ((piecesB (boundsS s)).take (m - i)).length < (piecesB (boundsS s)).length := by
        rw [List.length_take, piecesB_len, Hm.out]; omega
      have e1 : (i : Int) - 1 = (j : Int) := by omega
      rw [e1]
      have e4 : (j : Int) - 1 = (k : Int) := by omega
      have e5 : IntKind.i64.wrap ((j : Int) - 1) = (k : Int) := by rw [e4]; exact IntWalk.i64_in _ (by omega)
      have e6 : IntKind.i64.wrap (k : Int) = (k : Int) := IntWalk.i64_in _ (by omega)
      have hk0 : (0 : Int) ≤ (k : Int) := by omega
      have hkm : (k : Int) < (m : Int) := by omega
      have hkN : k < m := by omega
      have hjN : j < m := by omega
      have hj0 : (0 : Int) ≤ (j : Int) := by omega
      have hj1 : (j : Int) < (m : Int) := by omega
      have hj2 : (j : Int) > 0 := by omega
      have cy : wr.cell? ⟨b, off + j, none⟩ = some (.int .i64 (y : Nat)) := by rw [hk]; exact cy
      have hYW := YieldAt.mono (R' := fun e W' => ∃ q : Bool, e = .returned (.bool q) ∧ (q = true → J ((piecesB (boundsS s)).take (m - j)) W' ∧ KT 3 X wr.drew W') ∧ (q = false → Jx ((piecesB (boundsS s)).take (m - j)) W')) (hY _ (x, y) wr.drew (abides_below hJ hJr (Below.refl _ _).drew) hlen) (by
        rw [hp]
        rintro e W' (⟨h1, h2, h3⟩ | ⟨h1, h2⟩)
        · exact ⟨true, h1, fun _ => ⟨h2, h3⟩, fun h => absurd h (by decide)⟩
        · exact ⟨false, h1, fun h => absurd h (by decide), fun _ => h2⟩)
      obtain ⟨fn, tmps, assign, body, hy, hR⟩ := hYW
      dsimp only [encCl] at hy
      rw [hcl] at hy
      dsimp only [encP2] at hy
      have Hj := Lib.hid hj
      have Hk := Lib.hid hk
      clear hat hcl hlen hj hk e1
      have hmx : Tryz.prog.follows .mixedOrders = true := by kernel_rfl
      gi_wp2_with fail
      gi_region_with_o (refine hR.mono ?_; rintro e W4 ⟨q, rfl, hqt, hqf⟩)
      all_goals
        cases q with
        | true =>
          obtain ⟨hJ4, hk4⟩ := hqt rfl
          gi_wp2_with fail
          go_roundw
          case rel => exact ⟨j, by first | rfl | (rw [e4]) | (have := Hk.out; go_num), by have := Hj.out; omega, hJ4, hk4.own hor (fun b hb => Nat.lt_of_lt_of_le (hX b hb) hWz)⟩
          case measure => simp [intOf]; omega
        | false =>
          have hJ4 := hqf rfl
          gi_wp2
          refine bodyPost_ret (results_none rfl _ _ _) rfl ?_
          exact ⟨⟨_, rfl⟩, .inr ⟨_, List.take_prefix _ _, hJ4⟩⟩
    · have hend : (piecesB (boundsS s)).take (m - i) = piecesB (boundsS s) := List.take_of_length_le (by rw [piecesB_len, Hm.out]; omega)
      rw [hend] at hJr
      have g0 : ¬ ((i : Int) - 1 > 0) := by omega
      gi_wp2
      go_end0
      first | exact ⟨⟨_, rfl⟩, .inl hJr⟩ | exact ⟨⟨_, rfl⟩, .inl ⟨_, rfl, hJr⟩⟩
end Go.Proofs.YtdnkignhenkamaaGreatDoor

/- -/
namespace Go.Proofs.YtdnkignhenkamaaGreatDoor
open Go.RowKit Go.Shelf
attribute [local go_sem] Oper.semAt_some
theorem res_aroundS (w : World) (b4 b5 : Nat) (tmps : Array Value) (h4 : tmps.getD 4 undef = .pointer (some ⟨b4, 0, none⟩)) (h5 : tmps.getD 5 undef = .pointer (some ⟨b5, 0, none⟩)) {x y : Int}
    (c4 : w.cell? ⟨b4, 0, none⟩ = some (.int .i64 x)) (c5 : w.cell? ⟨b5, 0, none⟩ = some (.int .i64 y)) : (results Tryz.f56 tmps).run Tryz.prog w = .ok (.tuple #[.int .i64 x, .int .i64 y]) w := by
  have h4' : tmps[4]?.getD undef = .pointer (some ⟨b4, 0, none⟩) := by simpa [Array.getD_eq_getD_getElem?] using h4
  have h5' : tmps[5]?.getD undef = .pointer (some ⟨b5, 0, none⟩) := by simpa [Array.getD_eq_getD_getElem?] using h5
  simp [results, Tryz.results56, go_sem, h4', h5', c4, c5]
def NoAS (s : ByteArray) (x : Int) (pre : List (Nat × Nat)) : Prop := ∀ p ∈ pre, arT x (clP s p) = false
def ArMS (s : ByteArray) (x : Int) (w : World) (pre : List (Nat × Nat)) (W : World) : Prop :=
  ∃ (q : Nat × Nat) (pre0 : List (Nat × Nat)), pre = pre0 ++ [q] ∧ NoAS s x pre0 ∧ arT x (clP s q) = true ∧ Blk W (w.heap.size + 1) 3 #[.int .i64 ((clP s q).1 : Nat)] ∧ Blk W (w.heap.size + 1 + 1) 3 #[.int .i64 ((clP s q).2 : Nat)] ∧ Below w.heap.size w W
theorem pieces_clS {s : ByteArray} {p : Nat × Nat} (h : p ∈ piecesF (boundsS s)) : clP s p = p := clP_in (piecesF_le (boundsS_rise s) (boundsS_le s) p h)
set_option maxRecDepth 100000 in
set_option maxHeartbeats 4000000 in
theorem nAround_any (s : ByteArray) (x : Int) (w : World) (hE : Env w) (hs : s.size ≤ 1000000) : Calls Tryz.prog 56 #[.string s, .int .i64 x] w fun e w' => e = .returned (.tuple #[.int .i64 ((aroundL (boundsS s) x).1 : Nat), .int .i64 ((aroundL (boundsS s) x).2 : Nat)]) ∧ Below w.heap.size w w' := by
  have hA1 : Below w.heap.size w (w.alloc (.cells #[.int .i64 x] 3)) := (Below.refl _ _).alloc (Nat.le_refl _) _
  have hA2 := hA1.alloc hA1.size (.cells #[.int .i64 0] 3)
  have hA4 := hA2.alloc hA2.size (.cells #[.int .i64 0] 3)
  have B3 : Blk (((w.alloc (.cells #[.int .i64 x] 3)).alloc (.cells #[.int .i64 0] 3)).alloc (.cells #[.int .i64 0] 3)) w.heap.size 3 #[.int .i64 x] := (((Blk.new w 3 #[.int .i64 x]).alloc _).alloc _)
  have B4 : Blk (((w.alloc (.cells #[.int .i64 x] 3)).alloc (.cells #[.int .i64 0] 3)).alloc (.cells #[.int .i64 0] 3)) (w.heap.size + 1) 3 #[.int .i64 0] := by
    have := (Blk.new (w.alloc (.cells #[.int .i64 x] 3)) 3 #[.int .i64 0]).alloc (.cells #[.int .i64 0] 3)
    rw [World.size_alloc] at this
    exact this
  have B5 : Blk (((w.alloc (.cells #[.int .i64 x] 3)).alloc (.cells #[.int .i64 0] 3)).alloc (.cells #[.int .i64 0] 3)) (w.heap.size + 1 + 1) 3 #[.int .i64 0] := by
    have := Blk.new ((w.alloc (.cells #[.int .i64 x] 3)).alloc (.cells #[.int .i64 0] 3)) 3 #[.int .i64 0]
    rw [World.size_alloc, World.size_alloc] at this
    exact this
  clear hA1 hA2
  refine (callsIn_wide (n := 6)).1 ?_
  refine callsIn_of_wp_marks Tryz.func56 rfl trivial ?_ rfl
  simp only [Tryz.ntmps56, List.size_toArray, List.length_cons, List.length_nil, Nat.reduceAdd, Nat.reduceSub, Array.replicate_succ, Array.replicate_zero, List.push_toArray, List.append_toArray, List.nil_append, List.cons_append]
  refine wpIn_wide.2 ?_
  go_wp2_with fail
  generalize (((w.alloc (.cells #[.int .i64 x] 3)).alloc (.cells #[.int .i64 0] 3)).alloc (.cells #[.int .i64 0] 3)) = w0 at hA4 B3 B4 B5 ⊢
  refine (nEach_any s w0).mono ?_
  rintro e w1 ⟨bs, rfl, hc, hb⟩
  have hW1 := below_two hA4 hb
  have C3 := B3.below hb
  have C4 := B4.below hb
  have C5 := B5.below hb
  have hz6 := C5.lt
  have hE1 := hE.below hW1
  clear hA4 hb B3 B4 B5 hE
  go_wp2_with fail
  refine (wpIn_wide (n := 6)).1 ?_
  refine rngH rfl (by decide) (gf := 78) (lb := #[.pointer (some ⟨bs, 0, none⟩)]) rfl trivial (enters_of Tryz.func78 (by kernel_rfl) rfl)
    (nEach_seq 5 (by decide) w1 s bs (fun _ => False) (fun _ h => h.elim) hE1 hs hc) (fun h k => h.trans k) (fun W l o o' _ h hc _ => KT.put W l o o' h hc) (Below.refl _ _) (fun _ => rfl) (fun W => KT.refl _ _ W)
    (fun (pre : List (Nat × Nat)) W => NoAS s x pre ∧ Below w1.heap.size w1 W)
    (fun cc pre W => cc = .ret ∧ ArMS s x w pre W)
    (OwnFrom.and (fun _ _ _ _ hs _ _ => hs) (ownFrom_below (Nat.le_refl _) (Nat.le_refl _)))
    (fun cc pre A B row hs hg hr => by
      obtain ⟨h1, q, pre0, h2, h3, h4, h5, h6, h8⟩ := hs
      exact ⟨h1, q, pre0, h2, h3, h4, h5.kept hg (fun r e => (hr r e).2), h6.kept hg (fun r e => (hr r e).2), ownFrom_below (β := Unit) (Nat.le_refl w.heap.size) (by omega : w.heap.size ≤ w1.heap.size) () A B row h8 hg hr⟩)
    ⟨(fun p hp => by cases hp), Below.refl _ _⟩
    (fun T (x : Nat × Nat) => (((T.setIfInBounds 10 (.int .i64 ((clP s x).1 : Nat))).setIfInBounds 11 (.int .i64 ((clP s x).2 : Nat))).setIfInBounds 6 (.int .i64 ((clP s x).1 : Nat))).setIfInBounds 7 (.int .i64 ((clP s x).2 : Nat))) ?assign ?body ?done ?stop
  case assign =>
    intro l2 x V K hK
    simp only [List.setIfInBounds_toArray, List.set_cons_succ, List.set_cons_zero] at hK
    simp only [encCl, encP2]
    gi_wp2
    exact hK
  case body =>
    rintro l2 pre y W hl2 _ ⟨hno, hbW⟩ hlen
    simp only [List.setIfInBounds_toArray, List.set_cons_succ, List.set_cons_zero]
    obtain ⟨⟨a, b⟩, hab⟩ : ∃ z, clP s y = z := ⟨_, rfl⟩
    rw [hab]
    simp only
    have c3 := (C3.below hbW).cell 0
    have D4 := C4.below hbW
    have D5 := C5.below hbW
    have c4 := D4.cell 0
    have c5 := D5.cell 0
    have f4 := D4.frozen 0
    have f5 := D5.frozen 0
    simp only [List.getElem?_toArray, List.getElem?_cons_zero] at c3 c4 c5
    have hz4 : w.heap.size + 1 + 1 < w1.heap.size := hz6
    have HNo := Lib.hid hno
    have HAB := Lib.hid hab
    clear hno hab
    have hstop : ¬ ((a : Int) ≤ x ∧ x < (b : Int)) → Hid (NoAS s x (pre ++ [y])) := fun hq => Lib.hid (fun p hp => by
      rcases List.mem_append.1 hp with h | h
      · exact HNo.out p h
      · rw [List.mem_singleton] at h; subst h; rw [HAB.out]; unfold arT
        rw [Bool.and_eq_false_iff, decide_eq_false_iff_not, decide_eq_false_iff_not]
        by_cases h1 : (a : Int) ≤ x
        · exact .inr fun h2 => hq ⟨h1, h2⟩
        · exact .inl h1)
    by_cases h1 : (a : Int) ≤ x
    · by_cases h2 : x < (b : Int)
      · have HT : Hid (arT x (clP s y) = true) := Lib.hid (by rw [HAB.out]; unfold arT; rw [decide_eq_true h1, decide_eq_true h2]; rfl)
        clear hstop
        gi_wp2
        have E4 := D4.set_ 0 (.int .i64 (a : Nat))
        have E5 := (blk_farG (p := ⟨w.heap.size + 1, 0, none⟩) (u := .int .i64 (a : Nat)) D5 (by simp)).set_ 0 (.int .i64 (b : Nat))
        refine ⟨((KeepsOthers.setCell _ _ _).trans (KeepsOthers.setCell _ _ _)).from _, rfl, y, pre, rfl, HNo.out, HT.out, ?_, ?_, ?_⟩
        · rw [HAB.out]; exact blk_farG E4 (by simp)
        · rw [HAB.out]; exact E5
        · exact (((hW1.trans (hbW.mono hW1.size)).setCell (p := ⟨w.heap.size + 1, 0, none⟩) (by simp only; omega) _).setCell (p := ⟨w.heap.size + 1 + 1, 0, none⟩) (by simp only; omega) _)
      · have HNo2 := hstop (fun h => h2 h.2)
        clear hstop
        gi_wp2
        exact ⟨KeepsFrom.refl _ _, KT.refl _ _ _, HNo2.out, hbW⟩
    · have HNo2 := hstop (fun h => h1 h.1)
      clear hstop
      gi_wp2
      exact ⟨KeepsFrom.refl _ _, KT.refl _ _ _, HNo2.out, hbW⟩
  case done =>
    rintro D ys V hD hys ⟨hno, hbV⟩ hK
    subst hys
    have HV : Hid (aroundL (boundsS s) x = (0, 0)) := Lib.hid (by
      have : (piecesF (boundsS s)).find? (arT x) = none := by
        rw [List.find?_eq_none]
        intro p hp
        have := hno p hp
        rw [pieces_clS hp] at this
        simpa using this
      unfold aroundL; rw [this]; rfl)
    have D4 := C4.below hbV
    have D5 := C5.below hbV
    have c4 := D4.cell 0
    have c5 := D5.cell 0
    have f4 := D4.frozen 0
    have f5 := D5.frozen 0
    simp only [List.getElem?_toArray, List.getElem?_cons_zero] at c4 c5
    go_wp2
    have hz4 : w.heap.size + 1 + 1 < w1.heap.size := hz6
    have E4 := D4.set_ 0 (.int .i64 0)
    have E5 := (blk_farG (p := ⟨w.heap.size + 1, 0, none⟩) (u := .int .i64 0) D5 (by simp)).set_ 0 (.int .i64 0)
    have hK3 := (Below.heap_setCell _ ⟨w.heap.size + 1 + 1, 0, none⟩ (.int .i64 0) D (by simp only; omega)).trans ((Below.heap_setCell V ⟨w.heap.size + 1, 0, none⟩ (.int .i64 0) D (by simp only; omega)).trans hK)
    refine ⟨by simp, .inl ⟨_, _, rfl, run_takeDeferred hK3, ?_⟩⟩
    have F4 := blk_putG (D := D) (o := .deferred none) (blk_farG (p := ⟨w.heap.size + 1 + 1, 0, none⟩) (u := .int .i64 0) E4 (by simp)) (by omega)
    have F5 := blk_putG (D := D) (o := .deferred none) E5 (by omega)
    refine ⟨_, res_aroundS _ _ _ _ rfl rfl (F4.cell 0) (F5.cell 0), by rw [HV.out] <;> rfl, ?_⟩
    exact ((((hW1.trans (hbV.mono hW1.size)).setCell (p := ⟨w.heap.size + 1, 0, none⟩) (by simp only; omega) _).setCell (p := ⟨w.heap.size + 1 + 1, 0, none⟩) (by simp only; omega) _)).trans (belowK_b (w := w) (Nat.le_refl _) _ D _ _ (by omega) hK3 rfl rfl)
  case stop =>
    rintro D cc pre W hD hp ⟨rfl, q, pre0, rfl, h3, h4, h5, h6, h8⟩ hK
    have hmem : ∀ p ∈ pre0 ++ [q], p ∈ piecesF (boundsS s) := fun p h => hp.subset h
    have HV : Hid (aroundL (boundsS s) x = ((clP s q).1, (clP s q).2)) := Lib.hid (by
      have : (piecesF (boundsS s)).find? (arT x) = some q := by
        refine find_prefixG hp (fun p hp' => ?_) ?_
        · have := h3 p hp'
          rwa [pieces_clS (hmem p (by simp [hp']))] at this
        · rwa [pieces_clS (hmem q (by simp))] at h4
      unfold aroundL; rw [this, pieces_clS (hmem q (by simp))]; rfl)
    have c4 := h5.cell 0
    have c5 := h6.cell 0
    simp only [List.getElem?_toArray, List.getElem?_cons_zero] at c4 c5
    have hz4 : w.heap.size + 1 + 1 < w1.heap.size := hz6
    gi_wp2
    refine ⟨by simp, .inl ⟨_, _, rfl, run_takeDeferred hK, ?_⟩⟩
    have F4 := blk_putG (D := D) (o := .deferred none) h5 (by omega)
    have F5 := blk_putG (D := D) (o := .deferred none) h6 (by omega)
    refine ⟨_, res_aroundS _ _ _ _ rfl rfl (F4.cell 0) (F5.cell 0), by rw [HV.out] <;> rfl, ?_⟩
    exact h8.trans (belowK_b (w := w) (Nat.le_refl _) _ D _ _ (by omega) hK rfl rfl)
end Go.Proofs.YtdnkignhenkamaaGreatDoor

/- -/
namespace Go.Proofs.YtdnkignhenkamaaGreatDoor
open Go.RowKit
def isE (s : ByteArray) (z : Int) : Bool := if z < 0 ∨ (s.size : Int) < z then false else edgeB s z.toNat
set_option maxRecDepth 100000 in
set_option maxHeartbeats 1000000 in
theorem uIsZ_any (s : ByteArray) (z : Int) (w : World) (hT : Tabs w) (hs : s.size ≤ 1000000) :
    Calls Tryz.prog 38 #[.string s, .int .i64 z] w fun e w' => e = .returned (.bool (isE s z)) ∧ Below w.heap.size w w' := by
  by_cases h0 : z < 0
  · have HV : Hid (isE s z = false) := Lib.hid (if_pos (.inl h0))
    go_enter Tryz.func38, Tryz.ntmps38
    go_wp2
    go_ret
    exact ⟨by rw [HV.out]; rfl, Below.refl _ _⟩
  by_cases h1 : (s.size : Int) < z
  · have HV : Hid (isE s z = false) := Lib.hid (if_pos (.inr h1))
    have h2 : z > (s.size : Int) := h1
    go_enter Tryz.func38, Tryz.ntmps38
    go_wp2
    go_ret
    exact ⟨by rw [HV.out]; rfl, Below.refl _ _⟩
  obtain ⟨k, rfl⟩ : ∃ k : Nat, z = k := ⟨z.toNat, by omega⟩
  have HV : isE s k = edgeB s k := by unfold isE; rw [if_neg (by omega)]; rfl
  rw [HV]
  exact uIs_any s k w hT (by omega) hs
set_option maxHeartbeats 1000000 in
theorem uDecode_any (s : ByteArray) (w : World) (hT : Tabs w) (h0 : 0 < s.size) :
    Calls Tryz.prog 71 #[.string s] w fun e w' => e = .returned (.tuple #[.int .i32 ((Utf8.decode s 0).1 : Nat), .int .i64 ((Utf8.decode s 0).2 : Nat)]) ∧ Below w.heap.size w w' := by
  have HC := lDecode_any s 0 w hT (by omega)
  have hx : s.extract 0 s.size = s := by simp
  have hr : runeAt s 0 = Utf8.decode s 0 := by unfold runeAt; rw [if_pos h0]
  rw [hx, hr] at HC
  replace HC := Lib.hid HC
  have hem : s.toList.isEmpty = false := by
    rw [ByteArray.toList_eq]
    cases hq : s.data.toList with
    | nil => rw [← size_data, hq] at h0; simp at h0
    | cons a b => rfl
  generalize Utf8.decode s 0 = r at HC ⊢
  clear hr hx
  go_enter Tryz.func71, Tryz.ntmps71
  go_wp2_with fail
  refine HC.out.mono ?_
  rintro e w1 ⟨rfl, hb⟩
  go_wp2
  go_ret2
  exact ⟨rfl, hb⟩
def withinB (s : ByteArray) (x y : Int) : Bool := decide (x ≤ y) && isE s x && isE s y
set_option maxHeartbeats 1000000 in
theorem nwithin_any (s : ByteArray) (x y : Int) (w : World) (hT : Tabs w) (hs : s.size ≤ 1000000) :
    Calls Tryz.prog 80 #[.string s, .int .i64 x, .int .i64 y] w fun e w' => e = .returned (.bool (withinB s x y)) ∧ Below w.heap.size w w' := by
  have HI := Lib.hid (fun z W (h : Below w.heap.size w W) => uIsZ_any s z W (hT.below h) hs)
  have HV : Hid (withinB s x y = (decide (x ≤ y) && isE s x && isE s y)) := Lib.hid rfl
  have H1 := Lib.hid (fun W h => HI.out x W h)
  have H2 := Lib.hid (fun W h => HI.out y W h)
  generalize isE s x = p at HV H1
  generalize isE s y = q at HV H2
  clear HI
  by_cases hxy : x ≤ y
  · rw [decide_eq_true hxy] at HV
    have HA := Lib.hid (H1.out w (Below.refl _ _))
    cases p with
    | false =>
      go_enter Tryz.func80, Tryz.ntmps80
      go_wp2_with fail
      refine HA.out.mono ?_
      rintro e w1 ⟨rfl, hb1⟩
      go_wp2
      go_ret
      exact ⟨by rw [HV.out]; rfl, hb1⟩
    | true =>
      go_enter Tryz.func80, Tryz.ntmps80
      go_wp2_with fail
      refine HA.out.mono ?_
      rintro e w1 ⟨rfl, hb1⟩
      have HB := Lib.hid (H2.out w1 hb1)
      go_wp2_with fail
      refine HB.out.mono ?_
      rintro e w2 ⟨rfl, hb2⟩
      go_wp2
      go_ret
      exact ⟨by rw [HV.out]; rfl, below_two hb1 hb2⟩
  · rw [decide_eq_false hxy] at HV
    go_enter Tryz.func80, Tryz.ntmps80
    go_wp2
    go_ret
    exact ⟨by rw [HV.out]; rfl, Below.refl _ _⟩
def blS (c : Nat) : Bool := c == 1 || c == 2 || c == 3 || c == 4
def blA : Array Value := #[.bool false, .bool true, .bool true, .bool true, .bool true, .bool false, .bool false, .bool false, .bool false, .bool false, .bool false, .bool false, .bool false, .bool false]
theorem blA_at {c : Nat} (h : c < 14) : blA[c]? = some (.bool (blS c)) := by
  have : c = 0 ∨ c = 1 ∨ c = 2 ∨ c = 3 ∨ c = 4 ∨ c = 5 ∨ c = 6 ∨ c = 7 ∨ c = 8 ∨ c = 9 ∨ c = 10 ∨ c = 11 ∨ c = 12 ∨ c = 13 := by omega
  rcases this with rfl | rfl | rfl | rfl | rfl | rfl | rfl | rfl | rfl | rfl | rfl | rfl | rfl | rfl <;> rfl
set_option maxRecDepth 100000 in
theorem res_blank (w : World) (b : Nat) (tmps : Array Value) (ht : tmps.getD 0 undef = .pointer (some ⟨b, 0, none⟩)) (hB : Blk w b 83 blA) : (results Tryz.f81 tmps).run Tryz.prog w = .ok (.agg blA) w := by
  have ht' : tmps[0]?.getD undef = .pointer (some ⟨b, 0, none⟩) := by simpa [Array.getD_eq_getD_getElem?] using ht
  have c0 := hB.cell 0
  have c1 := hB.cell 1
  have c2 := hB.cell 2
  have c3 := hB.cell 3
  have c4 := hB.cell 4
  have c5 := hB.cell 5
  have c6 := hB.cell 6
  have c7 := hB.cell 7
  have c8 := hB.cell 8
  have c9 := hB.cell 9
  have c10 := hB.cell 10
  have c11 := hB.cell 11
  have c12 := hB.cell 12
  have c13 := hB.cell 13
  simp only [blA, List.getElem?_toArray, List.getElem?_cons_succ, List.getElem?_cons_zero] at c0 c1 c2 c3 c4 c5 c6 c7 c8 c9 c10 c11 c12 c13
  simp [results, Tryz.results81, go_sem, ht', blA, c0, c1, c2, c3, c4, c5, c6, c7, c8, c9, c10, c11, c12, c13]
set_option maxRecDepth 100000 in
set_option maxHeartbeats 2000000 in
theorem nblank_any (w : World) : Calls Tryz.prog 81 #[] w fun e w' => e = .returned (.agg blA) ∧ Below w.heap.size w w' := by
  have HB := Lib.hid (Blk.new w 83 blA)
  unfold blA at HB
  go_enter Tryz.func81, Tryz.ntmps81
  go_wp2
  refine bodyPost_ret (res_blank _ w.heap.size _ rfl HB.out) rfl ?_
  exact ⟨rfl, (Below.refl _ _).alloc (Nat.le_refl _) _⟩
def headF (s : ByteArray) : Nat → Nat → Nat → Nat
  | 0, a, _ => a
  | f + 1, a, b => if a < b then (if blS (gS ((Utf8.decode (s.extract a b) 0).1 : Nat)) then headF s f (a + (Utf8.decode (s.extract a b) 0).2) b else a) else a
def lastF (s : ByteArray) : Nat → Nat → Nat → Nat
  | 0, _, b => b
  | f + 1, a, b => if a < b then (if blS (gS ((Lib.decodeLastL (s.extract a b).data.toList).1 : Nat)) then lastF s f a (b - (Lib.decodeLastL (s.extract a b).data.toList).2) else b) else b
def clS (c : Nat) : Bool := blS c || c == 11 || c == 13
def kindF (s : ByteArray) : Nat → Nat → Nat → Nat
  | 0, _, _ => 0
  | f + 1, a, b => if a < b then (let c := gS ((Lib.decodeLastL (s.extract a b).data.toList).1 : Nat); if c = 9 then 1 else if c = 10 then 2 else if clS c then kindF s f a (b - (Lib.decodeLastL (s.extract a b).data.toList).2) else 0) else 0
theorem headF_in (s : ByteArray) : ∀ f a b, b ≤ s.size → a ≤ b → a ≤ headF s f a b ∧ headF s f a b ≤ b := by
  intro f
  induction f with
  | zero => intro a b _ h; exact ⟨Nat.le_refl _, h⟩
  | succ f ih =>
    intro a b hb h
    unfold headF
    split
    · next hl =>
      split
      · have := dec_bd (s.extract a b) 0 (by rw [ByteArray.size_extract]; omega)
        rw [ByteArray.size_extract] at this
        have := ih (a + (Utf8.decode (s.extract a b) 0).2) b hb (by omega)
        omega
      · omega
    · omega
theorem last_bd (t : ByteArray) (h : 0 < t.size) : 1 ≤ (Lib.decodeLastL t.data.toList).2 ∧ (Lib.decodeLastL t.data.toList).2 ≤ t.size := by
  obtain ⟨r, w, e, h1, h2, _⟩ := trail_step (fun _ => 0) t h
  rw [e]; exact ⟨h1, h2⟩
set_option maxRecDepth 100000 in
set_option maxHeartbeats 8000000 in
theorem nTrim_any (s : ByteArray) (a b : Nat) (w : World) (hE : Env w) (hs : s.size ≤ 1000000) (hab : a ≤ b) (hb : b ≤ s.size) (hw : withinB s a b = true) :
    Calls Tryz.prog 52 #[.string s, .int .i64 (a : Nat), .int .i64 (b : Nat)] w fun e w' => e = .returned (.tuple #[.int .i64 (headF s (b - a) a b : Nat), .int .i64 (lastF s b (headF s (b - a) a b) b : Nat)]) ∧ Below w.heap.size w w' := by
  have HW := nwithin_any s a b w hE.tabs hs
  rw [hw] at HW
  replace HW := Lib.hid HW
  have HD := Lib.hid (fun W (h : Env W) => ndb_any W h)
  have HB := Lib.hid (fun W => nblank_any W)
  have HDec := Lib.hid (fun x y W (h : Env W) (hx : x < y) (hy : y ≤ s.size) => uDecode_any (s.extract x y) W h.tabs (by rw [ByteArray.size_extract]; omega))
  have HLst := Lib.hid (fun x y W (h : Env W) (hx : x < y) (hy : y ≤ s.size) => eLast_any (s.extract x y) W h.tabs (by rw [ByteArray.size_extract]; omega) (by rw [ByteArray.size_extract]; omega))
  have HDb := Lib.hid (fun x y (hx : x < y) (hy : y ≤ s.size) => (by
    have := dec_bd (s.extract x y) 0 (by rw [ByteArray.size_extract]; omega)
    rw [ByteArray.size_extract] at this
    omega : 1 ≤ (Utf8.decode (s.extract x y) 0).2 ∧ (Utf8.decode (s.extract x y) 0).2 ≤ y - x))
  have HLb := Lib.hid (fun x y (hx : x < y) (hy : y ≤ s.size) => (by
    have := last_bd (s.extract x y) (by rw [ByteArray.size_extract]; omega)
    rw [ByteArray.size_extract] at this
    omega : 1 ≤ (Lib.decodeLastL (s.extract x y).data.toList).2 ∧ (Lib.decodeLastL (s.extract x y).data.toList).2 ≤ y - x))
  have hha : a ≤ headF s (b - a) a b ∧ headF s (b - a) a b ≤ b := headF_in s (b - a) a b hb hab
  obtain ⟨h, Hh⟩ : ∃ h, Hid (headF s (b - a) a b = h) := ⟨_, Lib.hid rfl⟩
  rw [Hh.out] at hha ⊢
  obtain ⟨l, Hl⟩ : ∃ l, Hid (lastF s b h b = l) := ⟨_, Lib.hid rfl⟩
  rw [Hl.out]
  clear hw
  go_enter Tryz.func52, Tryz.ntmps52
  go_wp2_with fail
  refine HW.out.mono ?_
  rintro e w1 ⟨rfl, hb1⟩
  go_wp2_with fail
  refine (HD.out w1 (hE.below hb1)).mono ?_
  rintro e w2 ⟨p, rfl, hd, hb2⟩
  have hb12 := below_two hb1 hb2
  go_wp2_with fail
  refine (HB.out w2).mono ?_
  rintro e w3 ⟨rfl, hb3⟩
  have hb13 := below_two hb12 hb3
  have hd3 := hd.below hb3
  unfold blA
  clear hd hb1 hb2 hb12 hb3 HW HD HB
  go_upto_block 0 with fail
  have hB4 := Blk.new w3 83 blA
  have hb4 : Below w.heap.size w (w3.alloc (.cells blA 83)) := hb13.alloc hb13.size _
  have hd4 : DbAt (w3.alloc (.cells blA 83)) p sentsD := hd3.below ((Below.refl _ _).alloc (Nat.le_refl _) _)
  have hE4 := hE.below hb4
  unfold blA at hB4 hb4 hd4 hE4
  generalize World.alloc w3 _ = W4 at hB4 hb4 hd4 hE4 ⊢
  generalize w3.heap.size = g at hB4 ⊢
  replace hB4 : Blk W4 g 83 blA := hB4
  clear hd3 hb13
  go_cut [1, 10, 11] from 21 to 41 (fun v _ _ wx => v = .int .i64 h ∧ Below W4.heap.size W4 wx)
  case first =>
    go_wp2_with fail
    go_loopw [1, 10, 11] (fun v _ _ wr => ∃ x : Nat, v = .int .i64 x ∧ a ≤ x ∧ x ≤ b ∧ Below W4.heap.size W4 wr ∧ Hid (∃ f, b - x ≤ f ∧ h = headF s f x b)) (fun v _ _ _ => b - (intOf v).toNat)
    case atStart => exact ⟨a, rfl, Nat.le_refl _, hab, Below.refl _ _, Lib.hid ⟨b - a, Nat.le_refl _, Hh.out.symm⟩⟩
    case round =>
      obtain ⟨x, rfl, hax, hxb, hbw, HF⟩ := hrel
      obtain ⟨f, hf, HN⟩ := HF.out
      by_cases hlt : x < b
      · obtain ⟨f, rfl⟩ : ∃ f', f = f' + 1 := ⟨f - 1, by omega⟩
        have hr := HDec.out x b wr (hE4.below hbw) hlt hb
        have hsz := HDb.out x b hlt hb
        have hstep : headF s (f + 1) x b = if x < b then (if blS (gS ((Utf8.decode (s.extract x b) 0).1 : Nat)) then headF s f (x + (Utf8.decode (s.extract x b) 0).2) b else x) else x := rfl
        rw [if_pos hlt] at hstep
        rw [hstep] at HN
        clear hstep HF
        generalize Utf8.decode (s.extract x b) 0 = r at hr hsz HN
        obtain ⟨z, n⟩ := r
        have HR := Lib.hid hr
        clear hr
        simp only at HN hsz HR
        obtain ⟨hn1, hn2⟩ := hsz
        have HN := Lib.hid HN
        go_wp2_with fail
        refine HR.out.mono ?_
        rintro e wr1 ⟨rfl, hbr1⟩
        clear HR
        have hbw1 := below_two hbw hbr1
        have HG := Lib.hid (wGet_any p sentsD (z : Nat) wr1 (hd4.below hbw1) sentsOk.1 sentsOk.2.1)
        have hcl : gS (z : Nat) < 14 := gS_lt _
        generalize hc : gS (z : Nat) = c at HN hcl
        have HG : Hid (Calls Tryz.prog 68 #[.pointer (some ⟨p, 0, none⟩), .int .i32 (z : Nat)] wr1 fun e w' => e = .returned (.int .i64 (c : Nat)) ∧ Below wr1.heap.size wr1 w') := by rw [← hc]; exact HG
        clear hc
        go_wp2_with fail
        refine HG.out.mono ?_
        rintro e wr2 ⟨rfl, hbr2⟩
        clear HG
        have hbw2 := below_two hbw1 hbr2
        have cc := (hB4.below hbw2).cell c
        have cz := (hB4.below hbw2).frozen c
        rw [blA_at hcl] at cc
        cases q : blS c with
        | true =>
          rw [q] at cc HN
          have HN2 : Hid (h = headF s f (x + n) b) := Lib.hid (HN.out.trans (if_pos rfl))
          clear HN
          go_wp2
          go_roundw
          case rel => exact ⟨x + n, by first | rfl | go_num, by omega, by omega, hbw2, Lib.hid ⟨f, by omega, HN2.out⟩⟩
          case measure => simp [intOf] <;> omega
        | false =>
          rw [q] at cc HN
          have HN2 : Hid (h = x) := Lib.hid (HN.out.trans (if_neg (by simp)))
          clear HN
          go_wp2
          go_meet
          exact ⟨by rw [HN2.out], hbw2⟩
      · obtain rfl : x = b := by omega
        have hN2 : h = x := by
          cases f with
          | zero => exact HN
          | succ f => exact HN.trans (if_neg (by omega))
        clear HN HF hlt
        subst hN2
        have hlt : ¬ h < h := by omega
        go_wp2
        go_meet
        exact ⟨rfl, hbw⟩
  case rest =>
    obtain ⟨rfl, hbc⟩ := hcut
    have hB5 := hB4.below hbc
    have hd5 := hd4.below hbc
    have hE5 := hE4.below hbc
    have hb5 := below_two hb4 hbc
    clear hB4 hd4 hE4 hb4 hbc HDec HDb
    obtain ⟨hh1, hh2⟩ := hha
    go_wp2_with fail
    go_loopw [2, 12, 13] (fun v _ _ wr => ∃ y : Nat, v = .int .i64 y ∧ h ≤ y ∧ y ≤ b ∧ Below wc.heap.size wc wr ∧ Hid (∃ f, y ≤ f ∧ l = lastF s f h y)) (fun v _ _ _ => (intOf v).toNat)
    case atStart => exact ⟨b, rfl, hh2, Nat.le_refl _, Below.refl _ _, Lib.hid ⟨b, Nat.le_refl _, Hl.out.symm⟩⟩
    case round =>
      obtain ⟨y, rfl, hhy, hyb, hbw, HF⟩ := hrel
      obtain ⟨f, hf, HN⟩ := HF.out
      by_cases hlt : h < y
      · obtain ⟨f, rfl⟩ : ∃ f', f = f' + 1 := ⟨f - 1, by omega⟩
        have hr := HLst.out h y wr (hE5.below hbw) hlt (by omega)
        have hsz := HLb.out h y hlt (by omega)
        have hstep : lastF s (f + 1) h y = if h < y then (if blS (gS ((Lib.decodeLastL (s.extract h y).data.toList).1 : Nat)) then lastF s f h (y - (Lib.decodeLastL (s.extract h y).data.toList).2) else y) else y := rfl
        rw [if_pos hlt] at hstep
        rw [hstep] at HN
        clear hstep HF
        generalize Lib.decodeLastL (s.extract h y).data.toList = r at hr hsz HN
        obtain ⟨z, n⟩ := r
        have HR := Lib.hid hr
        clear hr
        simp only at HN hsz HR
        obtain ⟨hn1, hn2⟩ := hsz
        have HN := Lib.hid HN
        go_wp2_with fail
        refine HR.out.mono ?_
        rintro e wr1 ⟨rfl, hbr1⟩
        clear HR
        have hbw1 := below_two hbw hbr1
        have HG := Lib.hid (wGet_any p sentsD (z : Nat) wr1 (hd5.below hbw1) sentsOk.1 sentsOk.2.1)
        have hcl : gS (z : Nat) < 14 := gS_lt _
        generalize hc : gS (z : Nat) = c at HN hcl
        have HG : Hid (Calls Tryz.prog 68 #[.pointer (some ⟨p, 0, none⟩), .int .i32 (z : Nat)] wr1 fun e w' => e = .returned (.int .i64 (c : Nat)) ∧ Below wr1.heap.size wr1 w') := by rw [← hc]; exact HG
        clear hc
        go_wp2_with fail
        refine HG.out.mono ?_
        rintro e wr2 ⟨rfl, hbr2⟩
        clear HG
        have hbw2 := below_two hbw1 hbr2
        have cc := (hB5.below hbw2).cell c
        have cz := (hB5.below hbw2).frozen c
        rw [blA_at hcl] at cc
        cases q : blS c with
        | true =>
          rw [q] at cc HN
          have HN2 : Hid (l = lastF s f h (y - n)) := Lib.hid (HN.out.trans (if_pos rfl))
          clear HN
          have e1 : ((y : Int) - (n : Int)) = ((y - n : Nat) : Int) := by omega
          have e2 : IntKind.i64.wrap ((y : Int) - (n : Int)) = ((y - n : Nat) : Int) := by rw [e1]; exact IntWalk.i64_in _ (by omega)
          go_wp2
          go_roundw
          case rel => exact ⟨y - n, by first | rfl | go_num, by omega, by omega, hbw2, Lib.hid ⟨f, by omega, HN2.out⟩⟩
          case measure => simp [intOf] <;> omega
        | false =>
          rw [q] at cc HN
          have HN2 : Hid (l = y) := Lib.hid (HN.out.trans (if_neg (by simp)))
          clear HN
          go_wp2
          go_ret2
          exact ⟨by rw [HN2.out]; rfl, below_two hb5 hbw2⟩
      · obtain rfl : h = y := by omega
        have hN2 : l = h := by
          cases f with
          | zero => exact HN
          | succ f => exact HN.trans (if_neg (by omega))
        clear HN HF hlt
        subst hN2
        have hlt : ¬ l < l := by omega
        go_wp2
        go_ret2
        exact ⟨rfl, below_two hb5 hbw⟩
end Go.Proofs.YtdnkignhenkamaaGreatDoor

/- -/
namespace Go.Proofs.YtdnkignhenkamaaGreatDoor
open Go.RowKit
def blK : Array Value := #[.bool false, .bool true, .bool true, .bool true, .bool true, .bool false, .bool false, .bool false, .bool false, .bool false, .bool false, .bool true, .bool false, .bool true]
theorem blK_at {c : Nat} (h : c < 14) : blK[c]? = some (.bool (clS c)) := by
  have : c = 0 ∨ c = 1 ∨ c = 2 ∨ c = 3 ∨ c = 4 ∨ c = 5 ∨ c = 6 ∨ c = 7 ∨ c = 8 ∨ c = 9 ∨ c = 10 ∨ c = 11 ∨ c = 12 ∨ c = 13 := by omega
  rcases this with rfl | rfl | rfl | rfl | rfl | rfl | rfl | rfl | rfl | rfl | rfl | rfl | rfl | rfl <;> rfl
set_option maxRecDepth 100000 in
set_option maxHeartbeats 8000000 in
theorem nKind_any (s : ByteArray) (a b : Nat) (w : World) (hE : Env w) (hs : s.size ≤ 1000000) (hab : a ≤ b) (hb : b ≤ s.size) (hw : withinB s a b = true) :
    Calls Tryz.prog 47 #[.string s, .int .i64 (a : Nat), .int .i64 (b : Nat)] w fun e w' => e = .returned (.int .i64 (kindF s b a b : Nat)) ∧ Below w.heap.size w w' := by
  have HW := nwithin_any s a b w hE.tabs hs
  rw [hw] at HW
  replace HW := Lib.hid HW
  have HD := Lib.hid (fun W (h : Env W) => ndb_any W h)
  have HB := Lib.hid (fun W => nblank_any W)
  have HLst := Lib.hid (fun x y W (h : Env W) (hx : x < y) (hy : y ≤ s.size) => eLast_any (s.extract x y) W h.tabs (by rw [ByteArray.size_extract]; omega) (by rw [ByteArray.size_extract]; omega))
  have HLb := Lib.hid (fun x y (hx : x < y) (hy : y ≤ s.size) => (by
    have := last_bd (s.extract x y) (by rw [ByteArray.size_extract]; omega)
    rw [ByteArray.size_extract] at this
    omega : 1 ≤ (Lib.decodeLastL (s.extract x y).data.toList).2 ∧ (Lib.decodeLastL (s.extract x y).data.toList).2 ≤ y - x))
  obtain ⟨l, Hl⟩ : ∃ l, Hid (kindF s b a b = l) := ⟨_, Lib.hid rfl⟩
  rw [Hl.out]
  clear hw
  go_enter Tryz.func47, Tryz.ntmps47
  go_wp2_with fail
  refine HW.out.mono ?_
  rintro e w1 ⟨rfl, hb1⟩
  go_wp2_with fail
  refine (HD.out w1 (hE.below hb1)).mono ?_
  rintro e w2 ⟨p, rfl, hd, hb2⟩
  have hb12 := below_two hb1 hb2
  go_wp2_with fail
  refine (HB.out w2).mono ?_
  rintro e w3 ⟨rfl, hb3⟩
  have hb13 := below_two hb12 hb3
  have hd3 := hd.below hb3
  unfold blA
  clear hd hb1 hb2 hb12 hb3 HW HD HB
  go_upto_block 0 with fail
  have hB4 := Blk.new w3 83 blK
  have hb4 : Below w.heap.size w (w3.alloc (.cells blK 83)) := hb13.alloc hb13.size _
  have hd4 : DbAt (w3.alloc (.cells blK 83)) p sentsD := hd3.below ((Below.refl _ _).alloc (Nat.le_refl _) _)
  have hE4 := hE.below hb4
  unfold blK at hB4 hb4 hd4 hE4
  generalize World.alloc w3 _ = W4 at hB4 hb4 hd4 hE4 ⊢
  generalize w3.heap.size = g at hB4 ⊢
  replace hB4 : Blk W4 g 83 blK := hB4
  clear hd3 hb13
  go_wp2_with fail
  go_loopw [2, 9, 10, 11] (fun v _ _ _ wr => ∃ y : Nat, v = .int .i64 y ∧ y ≤ b ∧ Below W4.heap.size W4 wr ∧ Hid (∃ f, y ≤ f ∧ l = kindF s f a y)) (fun v _ _ _ _ => (intOf v).toNat)
  case atStart => exact ⟨b, rfl, Nat.le_refl _, Below.refl _ _, Lib.hid ⟨b, Nat.le_refl _, Hl.out.symm⟩⟩
  case round =>
    obtain ⟨y, rfl, hyb, hbw, HF⟩ := hrel
    obtain ⟨f, hf, HN⟩ := HF.out
    by_cases hlt : a < y
    · obtain ⟨f, rfl⟩ : ∃ f', f = f' + 1 := ⟨f - 1, by omega⟩
      have hr := HLst.out a y wr (hE4.below hbw) hlt (by omega)
      have hsz := HLb.out a y hlt (by omega)
      have hstep : kindF s (f + 1) a y = if a < y then (if gS ((Lib.decodeLastL (s.extract a y).data.toList).1 : Nat) = 9 then 1 else if gS ((Lib.decodeLastL (s.extract a y).data.toList).1 : Nat) = 10 then 2 else if clS (gS ((Lib.decodeLastL (s.extract a y).data.toList).1 : Nat)) then kindF s f a (y - (Lib.decodeLastL (s.extract a y).data.toList).2) else 0) else 0 := rfl
      rw [if_pos hlt] at hstep
      rw [hstep] at HN
      clear hstep HF
      generalize Lib.decodeLastL (s.extract a y).data.toList = r at hr hsz HN
      obtain ⟨z, n⟩ := r
      have HR := Lib.hid hr
      clear hr
      simp only at HN hsz HR
      obtain ⟨hn1, hn2⟩ := hsz
      have HN := Lib.hid HN
      go_wp2_with fail
      refine HR.out.mono ?_
      rintro e wr1 ⟨rfl, hbr1⟩
      clear HR
      have hbw1 := below_two hbw hbr1
      have HG := Lib.hid (wGet_any p sentsD (z : Nat) wr1 (hd4.below hbw1) sentsOk.1 sentsOk.2.1)
      have hcl : gS (z : Nat) < 14 := gS_lt _
      generalize hc : gS (z : Nat) = c at HN hcl
      have HG : Hid (Calls Tryz.prog 68 #[.pointer (some ⟨p, 0, none⟩), .int .i32 (z : Nat)] wr1 fun e w' => e = .returned (.int .i64 (c : Nat)) ∧ Below wr1.heap.size wr1 w') := by rw [← hc]; exact HG
      clear hc
      go_wp2_with fail
      refine HG.out.mono ?_
      rintro e wr2 ⟨rfl, hbr2⟩
      clear HG
      have hbw2 := below_two hbw1 hbr2
      have cc := (hB4.below hbw2).cell c
      have cz := (hB4.below hbw2).frozen c
      rw [blK_at hcl] at cc
      cases q1 : ((c : Int) == 9) with
      | true =>
        have h1 : c = 9 := by have := eq_of_beq q1; omega
        have HV : Hid (l = 1) := Lib.hid (HN.out.trans (if_pos h1))
        clear HN h1 cc
        go_wp2
        go_ret
        exact ⟨by rw [HV.out]; rfl, below_two hb4 hbw2⟩
      | false =>
      have h1 : ¬ c = 9 := fun h => by subst h; simp at q1
      cases q2 : ((c : Int) == 10) with
      | true =>
        have h2 : c = 10 := by have := eq_of_beq q2; omega
        have HV : Hid (l = 2) := Lib.hid (HN.out.trans ((if_neg h1).trans (if_pos h2)))
        clear HN h1 h2 cc
        go_wp2
        go_ret
        exact ⟨by rw [HV.out]; rfl, below_two hb4 hbw2⟩
      | false =>
      have h2 : ¬ c = 10 := fun h => by subst h; simp at q2
      have HN1 := Lib.hid (HN.out.trans ((if_neg h1).trans (if_neg h2)))
      clear HN h1 h2
      cases q : clS c with
      | true =>
        rw [q] at cc HN1
        have HN2 : Hid (l = kindF s f a (y - n)) := Lib.hid (HN1.out.trans (if_pos rfl))
        clear HN1
        have e1 : ((y : Int) - (n : Int)) = ((y - n : Nat) : Int) := by omega
        have e2 : IntKind.i64.wrap ((y : Int) - (n : Int)) = ((y - n : Nat) : Int) := by rw [e1]; exact IntWalk.i64_in _ (by omega)
        go_wp2
        go_roundw
        case rel => exact ⟨y - n, by first | rfl | go_num, by omega, hbw2, Lib.hid ⟨f, by omega, HN2.out⟩⟩
        case measure => simp [intOf] <;> omega
      | false =>
        rw [q] at cc HN1
        have HV : Hid (l = 0) := Lib.hid (HN1.out.trans (if_neg (by simp)))
        clear HN1
        go_wp2
        go_ret
        exact ⟨by rw [HV.out]; rfl, below_two hb4 hbw2⟩
    · have HV : Hid (l = 0) := Lib.hid (by
        cases f with
        | zero => exact HN
        | succ f => exact HN.trans (if_neg hlt))
      clear HN HF
      go_wp2
      go_ret
      exact ⟨by rw [HV.out]; rfl, below_two hb4 hbw⟩
end Go.Proofs.YtdnkignhenkamaaGreatDoor

/- -/
namespace Go.Proofs.YtdnkignhenkamaaGreatDoor
open Go.RowKit
set_option maxRecDepth 100000 in
theorem nlive_bounds : boundsS ⟨#[65, 32, 98, 46, 32, 67, 32, 100, 46]⟩ = [0, 5, 9] := by kernel_rfl
set_option maxRecDepth 100000 in
theorem nlive_count : countS ⟨#[65, 32, 98, 46, 32, 99, 32, 100, 46]⟩ = 1 := by kernel_rfl
set_option maxRecDepth 100000 in
theorem nlive_in1 : withinB ⟨#[32, 97, 46, 32]⟩ (0 : Nat) (4 : Nat) = true := by kernel_rfl
set_option maxRecDepth 100000 in
theorem nlive_in2 : withinB ⟨#[97, 46, 41, 32]⟩ (0 : Nat) (4 : Nat) = true := by kernel_rfl
set_option maxRecDepth 100000 in
theorem nlive_head : headF ⟨#[32, 97, 46, 32]⟩ (4 - 0) 0 4 = 1 := by kernel_rfl
set_option maxRecDepth 100000 in
theorem nlive_last : lastF ⟨#[32, 97, 46, 32]⟩ 4 1 4 = 3 := by kernel_rfl
set_option maxRecDepth 100000 in
theorem nlive_kind : kindF ⟨#[97, 46, 41, 32]⟩ 4 0 4 = 1 := by kernel_rfl
set_option maxRecDepth 100000 in
set_option maxHeartbeats 4000000 in
theorem nlive_any (w : World) (hE : Env w) : Calls Tryz.prog 40 #[] w fun e w' => e = .returned (.bool true) ∧ Below w.heap.size w w' := by
  have H0 := Lib.hid (nTrim_any ⟨#[32, 97, 46, 32]⟩ 0 4 w hE (by decide) (by decide) (by decide) nlive_in1)
  have H1 := Lib.hid (fun W (h : Env W) => nBounds_any ⟨#[65, 32, 98, 46, 32, 67, 32, 100, 46]⟩ W h (by decide))
  have H2 := Lib.hid (fun W (h : Env W) => nCount_any ⟨#[65, 32, 98, 46, 32, 99, 32, 100, 46]⟩ W h (by decide))
  have H3 := Lib.hid (fun W (h : Env W) => nKind_any ⟨#[97, 46, 41, 32]⟩ 0 4 W h (by decide) (by decide) (by decide) nlive_in2)
  rw [nlive_head, nlive_last] at H0
  simp only [nlive_bounds] at H1
  simp only [nlive_count] at H2
  simp only [nlive_kind] at H3
  go_enter Tryz.func40, Tryz.ntmps40
  go_wp2_with fail
  refine H0.out.mono ?_
  rintro e w0 ⟨rfl, hb0⟩
  go_wp2_with fail
  refine (H1.out _ (hE.below hb0)).mono ?_
  rintro e w1 ⟨A, n, c, rfl, ho, hb1'⟩
  have hb1 := below_two hb0 hb1'
  obtain rfl : 3 = n := ho.len
  have hb4 : Below w.heap.size w (w1.alloc (.cells #[.int .i64 0, .int .i64 5, .int .i64 9] 3)) := hb1.alloc hb1.size _
  have ho := ho.alloc (.cells #[.int .i64 0, .int .i64 5, .int .i64 9] 3)
  have hr := Rd.manyQ w1 3 1 ([(0 : Nat), 5, 9].map encN) #[.int .i64 0, .int .i64 5, .int .i64 9] rfl (by intro x hx; obtain ⟨y, _, rfl⟩ := List.mem_map.1 hx; rfl)
  have HY := Lib.hid (zPlaces_same A (some ⟨w1.heap.size, 0, none⟩) 3 c 3 [0, 5, 9] _ (ho.rd (by decide)) hr rfl (by omega))
  clear H0 H1 hr ho hb1' hb0 hb1
  go_wp2_with fail
  refine HY.out.mono ?_
  rintro e w3 ⟨rfl, hb5⟩
  have hb6 := below_step hb4 hb5 hb4.size
  go_wp2_with fail
  refine (H2.out _ (hE.below hb6)).mono ?_
  rintro e w4 ⟨rfl, hb7⟩
  have hb8 := below_step hb6 hb7 hb6.size
  go_wp2_with fail
  refine (H3.out _ (hE.below hb8)).mono ?_
  rintro e w5 ⟨rfl, hb9⟩
  have hb10 := below_step hb8 hb9 hb8.size
  go_wp2
  go_ret
  exact ⟨rfl, hb10⟩
end Go.Proofs.YtdnkignhenkamaaGreatDoor

/- -/
namespace Go.Proofs.YtdnkignhenkamaaGreatDoor
open Go.RowKit
def encL (z : Int) : List Value := [.int .i64 z]
theorem Own.storedL {w : World} {base : Nat} {e : TypeId} {g n c k : Nat} {l : List Int} (h : Own w base e 1 (some ⟨g, 0, none⟩) n c (l.map encL)) (hk : k < l.length) (x : Int) :
    Own (w.setCell ⟨g, k, none⟩ (.int .i64 x)) base e 1 (some ⟨g, 0, none⟩) n c ((l.set k x).map encL) := by
  have h1 := h.stored (k := k) (j := 0) (x := encL l[k]) (by simp [hk]) (by omega) (.int .i64 x)
  rw [Nat.mul_one, Nat.add_zero] at h1
  have e : (l.map encL).set k ((encL l[k]).set 0 (.int .i64 x)) = (l.set k x).map encL := by rw [List.map_set]; rfl
  rw [e] at h1
  exact h1
theorem Own.cellL {w : World} {base : Nat} {e : TypeId} {g n c k : Nat} {l : List Int} {x : Int} (h : Own w base e 1 (some ⟨g, 0, none⟩) n c (l.map encL)) (hk : l[k]? = some x) : w.cell? ⟨g, k, none⟩ = some (.int .i64 x) := by
  have := h.cell (k := k) (j := 0) (x := encL x) (u := .int .i64 x) (by rw [List.getElem?_map, hk]; rfl) rfl
  simpa using this
theorem encL_cast (l : List Nat) : (l.map fun (x : Nat) => (x : Int)).map encL = l.map encN := by rw [List.map_map]; rfl
end Go.Proofs.YtdnkignhenkamaaGreatDoor

/- -/
namespace Go.Proofs.YtdnkignhenkamaaGreatDoor
open Go.RowKit
def hasL (L : List Nat) (x : Int) : Bool := (L.map fun (a : Nat) => (a : Int)).contains x
theorem hasL_step {L : List Nat} {x : Int} {i y : Nat} (h : L[i]? = some y) : hasL (L.take (i + 1)) x = (hasL (L.take i) x || ((y : Int) == x)) := by
  unfold hasL
  rw [List.take_add_one, h, Option.toList_some, List.map_append, List.map_cons, List.map_nil, List.contains_eq_any_beq, List.contains_eq_any_beq, List.any_append, List.any_cons, List.any_nil, Bool.or_false, Bool.beq_comm]
end Go.Proofs.YtdnkignhenkamaaGreatDoor

