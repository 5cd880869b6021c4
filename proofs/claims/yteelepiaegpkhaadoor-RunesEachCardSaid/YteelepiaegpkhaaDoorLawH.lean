/-
  kerflaw02.RunesEach, walked.
-/
import Derived.Test.YteelepiaegpkhaaDoorSl
import Derived.Test.YteelepiaegpkhaaDoorEachP
import Derived.Test.YteelepiaegpkhaaDoorRng
import Derived.Deep.RegionHeld3
import Derived.Laws.EntriesVeiled
namespace Go.Proofs.YteelepiaegpkhaaDoor
open Go.RowKit Go.Shelf
attribute [local go_sem] Oper.semAt_some

theorem res_each (w : World) (b : Nat) (tmps : Array Value) (ht : tmps.getD 4 undef = .pointer (some ⟨b, 0, none⟩)) {v : Bool} (hc : w.cell? ⟨b, 0, none⟩ = some (.bool v)) : (results Tryd.f5 tmps).run Tryd.prog w = .ok (.bool v) w := by
  have ht' : tmps[4]?.getD undef = .pointer (some ⟨b, 0, none⟩) := by simpa [Array.getD_eq_getD_getElem?] using ht
  simp [results, Tryd.results5, go_sem, ht', hc]
theorem EachIt.grown {w w' : World} {L : List (Int × Int)} {m bx : Nat} {row : Option Nat} (h : EachIt w L m bx) (hg : w.grownBy w' row) (hr : ∀ k, m ≤ k → some k ≠ row) : EachIt w' L m bx := by
  obtain ⟨A, na, ca, h1, h2, h3, h4, h5, h6⟩ := h
  refine ⟨A, na, ca, (World.cell?_of_block (hg.block bx (cell_lt h1) (hr bx h5))).trans h1, h2.keep fun b off i _ ha hp => ?_, h3, h4, h5, fun a ha => ⟨(h6 a ha).1, Nat.lt_of_lt_of_le (h6 a ha).2 hg.size⟩⟩
  have := h6 ⟨b, off, none⟩ ha
  exact (World.cell?_of_block (hg.block b this.2 (hr b this.1))).trans hp
theorem EachIt.below {w w' : World} {L : List (Int × Int)} {m bx : Nat} (h : EachIt w L m bx) (hb : RowKit.Below w.heap.size w w') : EachIt w' L m bx := h.grown (grown_of_below hb) (fun _ _ e => by cases e)
theorem cell_alloc2 {w : World} {b i : Nat} {v : Value} (hv : w.cell? ⟨b, i, none⟩ = some v) (o : Obj) : (w.alloc o).cell? ⟨b, i, none⟩ = some v := cell_keep hv ((RowKit.Below.refl _ _).alloc (Nat.le_refl _) o)
theorem seqr_nil (fn : Fn) (first captured : Array Value) (W : World) : (binOp .eql 40 (.func fn first captured) .nilFunc).run Tryd.prog W = .ok (.bool false) W := by kernel_rfl

theorem KC.of_below {m : Nat} {X : Nat → Prop} {A B : World} (h : RowKit.Below A.heap.size A B) : KC m X A B :=
  ⟨h.size, fun k _ _ _ hk _ => (h.block k (Array.getElem?_eq_some_iff.1 hk).1).trans hk, ⟨h.size, fun k _ hk _ => (h.block k (Array.getElem?_eq_some_iff.1 hk).1).trans hk⟩⟩
theorem KC.setCell {m : Nat} {X : Nat → Prop} {A B : World} (h : KC m X A B) {p : Addr} (hp : p.block < m ∨ X p.block) (u : Value) : KC m X A (B.setCell p u) :=
  ⟨by simpa [World.setCell] using h.size, fun k o hm hx ho hc => (Below.heap_setCell B p u k (by
    rintro rfl
    rcases hp with hp | hp
    · omega
    · exact hx hp)).trans (h.same k o hm hx ho hc), h.walks.trans (KeepsWalks.setCell B p u)⟩
theorem prefix_next {α : Type} {R pre : List α} {x : α} (h : pre ++ [x] <+: R) : R[pre.length]? = some x := by
  obtain ⟨r, rfl⟩ := h
  simp
theorem take_next {α : Type} {R pre : List α} {x : α} (hp : pre = R.take pre.length) (hx : R[pre.length]? = some x) : pre ++ [x] = R.take (pre ++ [x]).length := by
  rw [List.length_append, List.length_singleton, List.take_add_one, hx, Option.toList_some, ← hp]

set_option maxRecDepth 100000 in
set_option maxHeartbeats 4000000 in
theorem kRunesEach_any (A : Option Addr) (n c : Nat) (l : List (Int × Int)) (stop : Int) (w : World) (hT : Tabs w) (hA : Rd w 2 A (l.map encR)) (ha : l.length = n) (hn : n ≤ maxLen) :
    Calls Tryd.prog 5 #[.slice A n c, .int .i64 stop] w fun e w' => e = .returned (.bool true) ∧ RowKit.Below w.heap.size w w' := by
  unfold maxLen at hn
  have HB : RowKit.Below w.heap.size w (((w.alloc (.cells #[.slice A n c] 23)).alloc (.cells #[.int .i64 stop] 3)).alloc (.cells #[.bool false] 4)) := (((RowKit.Below.refl _ _).alloc (Nat.le_refl _) _).alloc (by simp) _).alloc (by simp; omega) _
  have B2 : Blk (((w.alloc (.cells #[.slice A n c] 23)).alloc (.cells #[.int .i64 stop] 3)).alloc (.cells #[.bool false] 4)) w.heap.size 23 #[.slice A n c] := ((Blk.new w 23 #[.slice A n c]).alloc _).alloc _
  have B3 : Blk (((w.alloc (.cells #[.slice A n c] 23)).alloc (.cells #[.int .i64 stop] 3)).alloc (.cells #[.bool false] 4)) (w.heap.size + 1) 3 #[.int .i64 stop] := by
    have := (Blk.new (w.alloc (.cells #[.slice A n c] 23)) 3 #[.int .i64 stop]).alloc (.cells #[.bool false] 4)
    simpa using this
  have B4 : Blk (((w.alloc (.cells #[.slice A n c] 23)).alloc (.cells #[.int .i64 stop] 3)).alloc (.cells #[.bool false] 4)) (w.heap.size + 1 + 1) 4 #[.bool false] := by
    have := Blk.new ((w.alloc (.cells #[.slice A n c] 23)).alloc (.cells #[.int .i64 stop] 3)) 4 #[.bool false]
    simpa using this
  have c2 := B2.cell 0
  simp only [List.getElem?_toArray, List.getElem?_cons_zero] at c2
  have hA0 := hA.below HB
  refine (callsIn_wide (n := 6)).1 ?_
  refine callsIn_of_wp_marks Tryd.func5 rfl trivial ?_ rfl
  simp only [Tryd.ntmps5, List.size_toArray, List.length_cons, List.length_nil, Nat.reduceAdd, Nat.reduceSub, Array.replicate_succ, Array.replicate_zero, List.push_toArray, List.append_toArray, List.nil_append, List.cons_append]
  refine wpIn_wide.2 ?_
  by_cases h1 : 1500 < n
  · clear hA0 hA ha
    go_wp2_with fail
    generalize (((w.alloc (.cells #[.slice A n c] 23)).alloc (.cells #[.int .i64 stop] 3)).alloc (.cells #[.bool false] 4)) = w0 at HB B4 c2 ⊢
    refine (klive_any _ (hT.below HB)).mono ?_
    rintro e wz ⟨rfl, hb⟩
    replace B4 := B4.below hb
    replace HB := below_two HB hb
    have c4 := B4.cell 0
    have f4 := B4.frozen 0
    simp only [List.getElem?_toArray, List.getElem?_cons_zero] at c4
    go_wp2_with fail
    have c7 := (B4.set_ 0 (.bool true)).cell 0
    simp only [List.getElem?_toArray, List.getElem?_cons_zero, List.setIfInBounds_toArray, List.set_cons_zero] at c7
    exact ⟨_, res_each _ (w.heap.size + 1 + 1) _ rfl c7, rfl, HB.setCell (p := ⟨w.heap.size + 1 + 1, 0, none⟩) (by simp only; omega) _⟩
  have hn6 : n ≤ 1500 := by omega
  clear h1 hn
  have ka : Sl (((w.alloc (.cells #[.slice A n c] 23)).alloc (.cells #[.int .i64 stop] 3)).alloc (.cells #[.bool false] 4)) A n l := ⟨hA0, ha, by omega⟩
  clear hA0
  go_wp2_with fail
  generalize (((w.alloc (.cells #[.slice A n c] 23)).alloc (.cells #[.int .i64 stop] 3)).alloc (.cells #[.bool false] 4)) = w0 at HB B2 B3 B4 c2 ka ⊢
  clear c2
  have hz04 := B4.lt
  refine (kown_any A n c l _ ka.rd ka.len (by omega)).mono ?_
  rintro e w1 ⟨g1, c1, rfl, ho, hb⟩
  have hg1 := (ho.lt _ rfl)
  simp only at hg1
  replace ka := ka.below hb
  replace B2 := B2.below hb
  replace B3 := B3.below hb
  replace B4 := B4.below hb
  replace HB := below_two HB hb
  clear hb
  have kx : Sl w1 (some ⟨g1, 0, none⟩) n l := ⟨Rd.preR (ho.rd (by omega)), ka.len, by omega⟩
  have c2 := B2.cell 0
  simp only [List.getElem?_toArray, List.getElem?_cons_zero] at c2
  go_wp2_with fail
  refine (rEach_any _ n c1 l _ kx.rd kx.len (by omega)).mono ?_
  rintro e w2 ⟨bx, rfl, hit, hb⟩
  have ho2 := ho.below hb
  have hz12 := hb.size
  replace ka := ka.below hb
  replace B2 := B2.below hb
  replace B3 := B3.below hb
  replace B4 := B4.below hb
  replace HB := below_two HB hb
  clear hb
  have hnil := seqr_nil (.func 57) #[] #[.pointer (some ⟨bx, 0, none⟩)]
  have hbA : RowKit.Below w2.heap.size w2 (w2.alloc (.cells #[.func (.func 57) #[] #[.pointer (some ⟨bx, 0, none⟩)]] 40)) := (RowKit.Below.refl _ _).alloc (Nat.le_refl _) _
  have B6 : Blk (w2.alloc (.cells #[.func (.func 57) #[] #[.pointer (some ⟨bx, 0, none⟩)]] 40)) w2.heap.size 40 #[.func (.func 57) #[] #[.pointer (some ⟨bx, 0, none⟩)]] := Blk.new _ _ _
  have oA := ho2.alloc (.cells #[.func (.func 57) #[] #[.pointer (some ⟨bx, 0, none⟩)]] 40)
  clear c2
  go_wp2_with fail
  generalize (w2.alloc (.cells #[.func (.func 57) #[] #[.pointer (some ⟨bx, 0, none⟩)]] 40)) = wa at hbA B6 oA ⊢
  have hb := hbA
  replace ka := ka.below hb
  replace B2 := B2.below hb
  replace B3 := B3.below hb
  replace B4 := B4.below hb
  replace HB := below_two HB hb
  clear hb
  go_loopw [7] (fun i wr => ∃ (j : Nat) (L : List (Int × Int)), j ≤ n ∧ i = .int .i64 j ∧ Own wr w0.heap.size 37 2 (some ⟨g1, 0, none⟩) (n + 1) c1 (L.map encR) ∧ wa.grownBy wr (some g1)) (fun i _ => n - (intOf i).toNat)
  case atStart => exact ⟨0, spare l, by omega, rfl, oA, only_refl _ _⟩
  case round =>
    obtain ⟨j, L, hj, rfl, ho, hgr⟩ := hrel
    by_cases hlt : j < n
    · have hL : j < L.length := by have := ho.len; simp at this; omega
      obtain ⟨⟨lo, hi⟩, hx⟩ : ∃ x, L[j]? = some x := ⟨_, List.getElem?_eq_getElem hL⟩
      have ⟨d1, d2⟩ := ho.cellR hx
      have f1 := ho.frozen (j * 2)
      have f2 := ho.frozen (j * 2 + 1)
      clear hx
      go_wp2
      go_roundw
      case rel => exact ⟨j + 1, L.set j (122, 122), by omega, by go_num, ho.storedR hL 122 122, only_setCell (only_setCell hgr (p := ⟨g1, j * 2, none⟩) (.inl rfl) _) (p := ⟨g1, j * 2 + 1, none⟩) (.inl rfl) _⟩
      case measure => simp [intOf]; omega
    · obtain rfl : n = j := by omega
      have hgB : w.heap.size ≤ g1 := by have := hg1.1; omega
      have hzwa := hgr.size
      have HBz := HB.trans (below_only (B := w.heap.size) hgr HB.size hgB)
      clear HB
      have HB := HBz
      have hbA2 := hbA.size
      have kaZ : Sl wr A n l := ⟨hA.below HB, ha, by omega⟩
      have B2Z := B2.grown hgr (fun e => by injection e; omega)
      have B3Z := B3.grown hgr (fun e => by injection e; omega)
      have B4Z := B4.grown hgr (fun e => by injection e; omega)
      have B6Z := B6.grown hgr (fun e => by injection e; omega)
      have hitZ : EachIt wr (normR l) w1.heap.size bx := (hit.below hbA).grown hgr (fun k hk e => by injection e; omega)
      clear B2 B3 B4 B6 hit ka oA ho2 ho hgr hlt
      have c2 := B2Z.cell 0
      simp only [List.getElem?_toArray, List.getElem?_cons_zero] at c2
      have c2a := cell_alloc2 c2 (.cells #[.int .i64 0] 3)
      go_wp2_with fail
      have hbD : RowKit.Below wr.heap.size wr (wr.alloc (.cells #[.int .i64 0] 3)) := (RowKit.Below.refl _ _).alloc (Nat.le_refl _) _
      refine (slsCount (kaZ.below hbD)).mono ?_
      rintro e wc ⟨rfl, hb⟩
      have hbE := below_two hbD hb
      have B8 := (Blk.new wr 3 #[.int .i64 0]).below hb
      have c6 := (B6Z.below hbE).cell 0
      simp only [List.getElem?_toArray, List.getElem?_cons_zero] at c6
      have hzE : wr.heap.size + 1 ≤ wc.heap.size := by have := hb.size; simp at this; omega
      clear hb hbD c2 c2a
      go_wp2_with fail
      refine (wpIn_wide (n := 6)).1 ?_
      have hnr : ∀ y ∈ normR l, 0 ≤ y.1 ∧ y.1 ≤ y.2 ∧ y.2 ≤ 1114111 := fun y hy => ⟨((normR_NF l).2 y hy).1, Nf_le (normR_nf l) y hy, ((normR_NF l).2 y hy).2⟩
      have hget : ∀ k : Nat, atR l (k : Int) = match (eachL (normR l))[k]? with | some v => (v, true) | none => (0, false) := fun k => by
        unfold atR; rw [if_neg (by omega), eachL_get k (fun y hy => (hnr y hy).2.1)]
        cases (eachL (normR l))[k]? <;> rfl
      have Hcnt := Lib.hid (show ((eachL (normR l)).length : Int) = countR l from eachL_len (fun y hy => (hnr y hy).2.1))
      have Hnr := Lib.hid hnr
      have Hget := Lib.hid hget
      have hgz : w1.heap.size ≤ wr.heap.size := by omega
      clear hnr hget
      refine rngH rfl (by decide) (gf := 57) (lb := #[.pointer (some ⟨bx, 0, none⟩)]) rfl trivial (enters_of Tryd.func57 (by kernel_rfl) rfl)
        (each_stops 5 (by decide) wr (normR l) w1.heap.size bx (fun b => b = wr.heap.size) Hnr.out wc hbE hgz (by rintro b rfl; omega) hitZ) KC.trans (fun W l o o' _ h hc hw => KC.put W l o o' h hc hw) (RowKit.Below.refl _ _) (fun _ => rfl) (KC.refl _ _)
        (fun (pre : List Int) W => Blk W wr.heap.size 3 #[.int .i64 (pre.length : Nat)] ∧ RowKit.Below wr.heap.size wr W ∧ pre = (eachL (normR l)).take pre.length ∧ pre.length ≤ 60)
        (fun cc pre W => (cc = .exit 2 ∧ Blk W wr.heap.size 3 #[.int .i64 61] ∧ RowKit.Below wr.heap.size wr W) ∨ (cc = .ret ∧ ¬ pre <+: eachL (normR l)))
        (OwnFrom.and (Go.Own.from (fun s A B row hs hg hr => hs.kept hg hr) _) (OwnFrom.and (ownFrom_below (Nat.le_refl _) (by omega)) (fun _ _ _ _ hs _ _ => hs)))
        (fun cc pre A B row hs hg hr => hs.imp (fun h => ⟨h.1, h.2.1.kept hg (fun r e => (hr r e).2), ownFrom_below (β := Unit) (Nat.le_refl wr.heap.size) (by omega) () A B row h.2.2 hg hr⟩) id)
        ⟨B8, hbE, rfl, by simp⟩
        (fun T (y : Int) => (T.setIfInBounds 40 (.int .i32 y)).setIfInBounds 10 (.int .i32 y)) ?assign ?body ?done ?stop
      case assign =>
        intro l2 y W K hK
        simp only [List.setIfInBounds_toArray, List.set_cons_succ, List.set_cons_zero] at hK
        gi_wp2
        exact hK
      case done =>
        rintro D ys W hD hys ⟨B8W, hbW, _, h60⟩ hK
        obtain ⟨N, hN⟩ : ∃ N, N = ys.length := ⟨_, rfl⟩
        have hc1 : ((N : Int) == countR l) = true := by rw [hN, hys, Hcnt.out]; exact beq_self_eq_true _
        rw [← hN] at B8W h60
        clear hN hys
        have c8 := B8W.cell 0
        have B4W := B4Z.below hbW
        have HBW := HB.trans (hbW.mono (by omega))
        simp only [List.getElem?_toArray, List.getElem?_cons_zero] at c8
        have Hsz := Lib.hid (And.intro hzE (And.intro hz04 (And.intro hD hbW.size)))
        go_wp2_with fail
        refine (klive_any _ (hT.below HBW)).mono ?_
        rintro e wz ⟨rfl, hb⟩
        have hKk := (hb.block D (Array.getElem?_eq_some_iff.1 hK).1).trans hK
        replace B4W := B4W.below hb
        replace HBW := below_two HBW hb
        have c4 := B4W.cell 0
        have f4 := B4W.frozen 0
        simp only [List.getElem?_toArray, List.getElem?_cons_zero] at c4
        go_wp2_with fail
        have B4V := B4W.set_ 0 (.bool true)
        have hK3 : (wz.setCell ⟨w.heap.size + 1 + 1, 0, none⟩ (.bool true)).heap[D]? = some (.deferred (some [])) := (Below.heap_setCell wz ⟨w.heap.size + 1 + 1, 0, none⟩ _ D (by have := Hsz.out; simp only; omega)).trans hKk
        have c7 := B4V.cell 0
        simp only [List.getElem?_toArray, List.getElem?_cons_zero, List.setIfInBounds_toArray, List.set_cons_zero] at c7
        have HB9 := HBW.setCell (p := ⟨w.heap.size + 1 + 1, 0, none⟩) (by simp only; omega) (.bool true)
        refine ⟨by simp, .inl ⟨_, _, rfl, run_takeDeferred hK3, ?_⟩⟩
        refine ⟨_, res_each _ (w.heap.size + 1 + 1) _ rfl ((World.cell?_of_block (World.putObj_heap_other (by have := Hsz.out; simp only; omega))).trans c7), rfl, HB9.trans (belowK_b (w := w) (Nat.le_refl _) _ D _ _ (by have := Hsz.out; omega) hK3 rfl rfl)⟩
      case stop =>
        rintro D cc pre W hD hp (⟨rfl, B8W, hbW⟩ | ⟨rfl, hnp⟩) hK
        · obtain ⟨bq, hbq⟩ : ∃ q, ((61 : Int) == countR l) = q := ⟨_, rfl⟩
          cases bq with
          | false =>
            refine wpIn_wide.2 ?_
            have c8 := B8W.cell 0
            have B4W := B4Z.below hbW
            have HBW := HB.trans (hbW.mono (by omega))
            simp only [List.getElem?_toArray, List.getElem?_cons_zero] at c8
            have Hsz := Lib.hid (And.intro hzE (And.intro hz04 (And.intro hD hbW.size)))
            go_wp2_with fail
            refine (klive_any _ (hT.below HBW)).mono ?_
            rintro e wz ⟨rfl, hb⟩
            have hKk := (hb.block D (Array.getElem?_eq_some_iff.1 hK).1).trans hK
            replace B4W := B4W.below hb
            replace HBW := below_two HBW hb
            have c4 := B4W.cell 0
            have f4 := B4W.frozen 0
            simp only [List.getElem?_toArray, List.getElem?_cons_zero] at c4
            go_wp2_with fail
            have B4V := B4W.set_ 0 (.bool true)
            have hK3 : (wz.setCell ⟨w.heap.size + 1 + 1, 0, none⟩ (.bool true)).heap[D]? = some (.deferred (some [])) := (Below.heap_setCell wz ⟨w.heap.size + 1 + 1, 0, none⟩ _ D (by have := Hsz.out; simp only; omega)).trans hKk
            have c7 := B4V.cell 0
            simp only [List.getElem?_toArray, List.getElem?_cons_zero, List.setIfInBounds_toArray, List.set_cons_zero] at c7
            have HB9 := HBW.setCell (p := ⟨w.heap.size + 1 + 1, 0, none⟩) (by simp only; omega) (.bool true)
            refine ⟨by simp, .inl ⟨_, _, rfl, run_takeDeferred hK3, ?_⟩⟩
            refine ⟨_, res_each _ (w.heap.size + 1 + 1) _ rfl ((World.cell?_of_block (World.putObj_heap_other (by have := Hsz.out; simp only; omega))).trans c7), rfl, HB9.trans (belowK_b (w := w) (Nat.le_refl _) _ D _ _ (by have := Hsz.out; omega) hK3 rfl rfl)⟩
          | true =>
            refine wpIn_wide.2 ?_
            have c8 := B8W.cell 0
            have B4W := B4Z.below hbW
            have HBW := HB.trans (hbW.mono (by omega))
            simp only [List.getElem?_toArray, List.getElem?_cons_zero] at c8
            have Hsz := Lib.hid (And.intro hzE (And.intro hz04 (And.intro hD hbW.size)))
            go_wp2_with fail
            refine (klive_any _ (hT.below HBW)).mono ?_
            rintro e wz ⟨rfl, hb⟩
            have hKk := (hb.block D (Array.getElem?_eq_some_iff.1 hK).1).trans hK
            replace B4W := B4W.below hb
            replace HBW := below_two HBW hb
            have c4 := B4W.cell 0
            have f4 := B4W.frozen 0
            simp only [List.getElem?_toArray, List.getElem?_cons_zero] at c4
            go_wp2_with fail
            have B4V := B4W.set_ 0 (.bool true)
            have hK3 : (wz.setCell ⟨w.heap.size + 1 + 1, 0, none⟩ (.bool true)).heap[D]? = some (.deferred (some [])) := (Below.heap_setCell wz ⟨w.heap.size + 1 + 1, 0, none⟩ _ D (by have := Hsz.out; simp only; omega)).trans hKk
            have c7 := B4V.cell 0
            simp only [List.getElem?_toArray, List.getElem?_cons_zero, List.setIfInBounds_toArray, List.set_cons_zero] at c7
            have HB9 := HBW.setCell (p := ⟨w.heap.size + 1 + 1, 0, none⟩) (by simp only; omega) (.bool true)
            refine ⟨by simp, .inl ⟨_, _, rfl, run_takeDeferred hK3, ?_⟩⟩
            refine ⟨_, res_each _ (w.heap.size + 1 + 1) _ rfl ((World.cell?_of_block (World.putObj_heap_other (by have := Hsz.out; simp only; omega))).trans c7), rfl, HB9.trans (belowK_b (w := w) (Nat.le_refl _) _ D _ _ (by have := Hsz.out; omega) hK3 rfl rfl)⟩
        · exact absurd hp hnp
      case body =>
        rintro l2 pre y W hl2 ⟨r0, hr0⟩ ⟨B8W, hbW, hpre, h60⟩ hlen
        simp only [List.setIfInBounds_toArray, List.set_cons_succ, List.set_cons_zero]
        obtain ⟨v, hv⟩ : ∃ v, (eachL (normR l))[pre.length]? = some v := ⟨_, List.getElem?_eq_getElem hlen⟩
        have Hat := Lib.hid (show atR l (pre.length : Int) = (v, true) by rw [Hget.out, hv])
        have Hpn := Lib.hid (fun h : y = v => by subst h; exact (take_next hpre hv : pre ++ [y] = (eachL (normR l)).take (pre ++ [y]).length))
        have Hne : Hid (¬ y = v → ¬ pre ++ [y] <+: eachL (normR l)) := Lib.hid (fun h hp => by
          have := prefix_next hp
          rw [hv] at this
          injection this with this
          exact h this.symm)
        have c8 := B8W.cell 0
        have f8 := B8W.frozen 0
        have c2 := (B2Z.below hbW).cell 0
        have c3 := (B3Z.below hbW).cell 0
        have c6 := (B6Z.below hbW).cell 0
        have c4 := (B4Z.below hbW).cell 0
        have f4 := (B4Z.below hbW).frozen 0
        have kaW := kaZ.below hbW
        have hzW := hbW.size
        have hlW := B8W.lt
        simp only [List.getElem?_toArray, List.getElem?_cons_zero] at c8 c2 c3 c6 c4
        obtain ⟨k, hk⟩ : ∃ k, k = pre.length := ⟨_, rfl⟩
        rw [← hk] at c8 h60 hlen hv Hat B8W
        have Hk := Lib.hid hk
        have Hv := Lib.hid hv
        have Hpre := Lib.hid hpre
        clear hk hv hpre hlen
        gi_wp2_with fail
        refine ⟨trivial, (CallsIn.inRound l2 (callsIn_wide.2 (slsAt (k : Int) (by omega) kaW))).mono ?_⟩
        rintro e w3 ⟨rfl, hb3⟩
        rw [Hat.out]
        have hk3 : KeepsOthers W w3 := ⟨hb3.size, fun j o hj _ => (hb3.block j (Array.getElem?_eq_some_iff.1 hj).1).trans hj⟩
        have kcW := KC.of_below (m := w1.heap.size) (X := fun b => b = wr.heap.size) hb3
        have B83 := B8W.below hb3
        have hb3w : RowKit.Below wr.heap.size wr w3 := hbW.trans (hb3.mono hbW.size)
        replace c8 := cell_keep c8 hb3
        replace c2 := cell_keep c2 hb3
        replace c3 := cell_keep c3 hb3
        replace c6 := cell_keep c6 hb3
        have c4' := cell_keep c4 hb3
        have f4' := ((B4Z.below hbW).below hb3).frozen 0
        have f8' := B83.frozen 0
        have hz3 := hb3.size
        clear c4 f4 f8
        by_cases hx : y = v
        · subst hx
          obtain ⟨bq, hbq⟩ : ∃ q, ((k : Int) == stop) = q := ⟨_, rfl⟩
          cases bq with
          | false =>
            by_cases h6 : k = 60
            · subst h6
              gi_wp2
              have hkk := hk3.trans (KeepsOthers.setCell w3 ⟨wr.heap.size, 0, none⟩ (.int .i64 61))
              exact ⟨hkk.from _, .inl ⟨rfl, B83.set_ 0 (.int .i64 61), hb3w.setCell (p := ⟨wr.heap.size, 0, none⟩) (by simp) _⟩⟩
            · have h5 : k < 60 := by omega
              gi_wp2
              have hkk := hk3.trans (KeepsOthers.setCell w3 ⟨wr.heap.size, 0, none⟩ (.int .i64 ((k : Int) + 1)))
              refine ⟨hkk.from _, kcW.setCell (p := ⟨wr.heap.size, 0, none⟩) (.inr rfl) _, ?_, hb3w.setCell (p := ⟨wr.heap.size, 0, none⟩) (by simp) _, Hpn.out (by simp), by have := Hk.out; simp only [List.length_append, List.length_singleton]; omega⟩
              exact cast (congrArg (fun z => Blk _ _ _ #[Value.int .i64 z]) (by have := Hk.out; simp only [List.length_append, List.length_singleton]; omega : (k : Int) + 1 = ((pre ++ [y]).length : Nat))) (B83.set_ 0 (.int .i64 ((k : Int) + 1)))
          | true =>
            have hbk : RowKit.Below w3.heap.size w3 (w3.alloc (.cells #[.int .i64 0] 3)) := (RowKit.Below.refl _ _).alloc (Nat.le_refl _) _
            have BK : Blk (w3.alloc (.cells #[.int .i64 0] 3)) w3.heap.size 3 #[.int .i64 0] := Blk.new _ _ _
            have c6k := cell_keep c6 hbk
            have hzk : (w3.alloc (.cells #[.int .i64 0] 3)).heap.size = w3.heap.size + 1 := by simp
            gi_wp2_with fail
            generalize (w3.alloc (.cells #[.int .i64 0] 3)) = wk at hbk BK c6k hzk ⊢
            have hbwk : RowKit.Below wr.heap.size wr wk := hb3w.trans (hbk.mono hb3w.size)
            have hrk := (hbk.block l2 (Array.getElem?_eq_some_iff.1 ((hb3.block l2 (Array.getElem?_eq_some_iff.1 hr0).1).trans hr0)).1).trans ((hb3.block l2 (Array.getElem?_eq_some_iff.1 hr0).1).trans hr0)
            have Hzk := Lib.hid hzk
            clear hzk
            refine rngN (l₀ := l2) (r₀ := r0) rfl hrk (by decide) (gf := 57) (lb := #[.pointer (some ⟨bx, 0, none⟩)]) rfl trivial (enters_of Tryd.func57 (by kernel_rfl) rfl)
              ((each_stops 3 (by decide) wr (normR l) w1.heap.size bx (fun b => b = w3.heap.size) Hnr.out wk hbwk hgz (by rintro b rfl; have := Hzk.out; have := hb3w.size; omega) hitZ).inRound l2) KC.trans (fun W l o o' _ h hc hw => KC.put W l o o' h hc hw) (RowKit.Below.refl _ _) (fun _ => rfl) (KC.refl _ _)
              (fun (pre2 : List Int) W2 => Blk W2 w3.heap.size 3 #[.int .i64 (pre2.length : Nat)] ∧ RowKit.Below w3.heap.size w3 W2 ∧ pre2 = (eachL (normR l)).take pre2.length ∧ pre2.length ≤ 2)
              (fun cc pre2 W2 => (cc = .exit 4 ∧ RowKit.Below w3.heap.size w3 W2) ∨ (cc = .ret ∧ ¬ pre2 <+: eachL (normR l)))
              (OwnFrom.and (Go.Own.from (fun s A B row hs hg hr => hs.kept hg hr) _) (OwnFrom.and (ownFrom_below (Nat.le_refl _) (by have := Hzk.out; omega)) (fun _ _ _ _ hs _ _ => hs)))
              (fun cc pre2 A B row hs hg hr => hs.imp (fun h => ⟨h.1, ownFrom_below (β := Unit) (Nat.le_refl w3.heap.size) (by have := Hzk.out; omega) () A B row h.2 hg hr⟩) id)
              ⟨BK, hbk, rfl, by simp⟩
              (fun T (z : Int) => (T.setIfInBounds 58 (.int .i32 z)).setIfInBounds 14 (.int .i32 z)) ?assign2 ?body2 ?done2 ?stop2
            case assign2 =>
              intro l3 z W2 K hK
              simp only [List.setIfInBounds_toArray, List.set_cons_succ, List.set_cons_zero] at hK
              gi_wp2
              exact hK
            case done2 =>
              rintro ys W2 hys ⟨_, hb2, _, _⟩
              have hk2 : KeepsOthers w3 W2 := ⟨hb2.size, fun j o hj _ => (hb2.block j (Array.getElem?_eq_some_iff.1 hj).1).trans hj⟩
              have hbW2 : RowKit.Below wr.heap.size wr W2 := hb3w.trans (hb2.mono hb3w.size)
              have hkW2 := hk3.trans hk2
              have B82 := B83.below hb2
              have kc2 := kcW.trans (KC.of_below (m := w1.heap.size) (X := fun b => b = wr.heap.size) hb2)
              have c82 := B82.cell 0
              have f82 := B82.frozen 0
              simp only [List.getElem?_toArray, List.getElem?_cons_zero] at c82
              clear c8 c2 c3 c6 c4' f4' f8' c6k
              by_cases h6 : k = 60
              · subst h6
                gi_wp2
                have hkk := hkW2.trans (KeepsOthers.setCell W2 ⟨wr.heap.size, 0, none⟩ (.int .i64 61))
                exact ⟨hkk.from _, .inl ⟨rfl, B82.set_ 0 (.int .i64 61), hbW2.setCell (p := ⟨wr.heap.size, 0, none⟩) (by simp) _⟩⟩
              · have h5 : k < 60 := by omega
                gi_wp2
                have hkk := hkW2.trans (KeepsOthers.setCell W2 ⟨wr.heap.size, 0, none⟩ (.int .i64 ((k : Int) + 1)))
                refine ⟨hkk.from _, kc2.setCell (p := ⟨wr.heap.size, 0, none⟩) (.inr rfl) _, ?_, hbW2.setCell (p := ⟨wr.heap.size, 0, none⟩) (by simp) _, Hpn.out (by simp), by have := Hk.out; simp only [List.length_append, List.length_singleton]; omega⟩
                exact cast (congrArg (fun z => Blk _ _ _ #[Value.int .i64 z]) (by have := Hk.out; simp only [List.length_append, List.length_singleton]; omega : (k : Int) + 1 = ((pre ++ [y]).length : Nat))) (B82.set_ 0 (.int .i64 ((k : Int) + 1)))
            case stop2 =>
              rintro cc pre2 W2 hp (⟨rfl, hb2⟩ | ⟨rfl, hnp⟩)
              · have hk2 : KeepsOthers w3 W2 := ⟨hb2.size, fun j o hj _ => (hb2.block j (Array.getElem?_eq_some_iff.1 hj).1).trans hj⟩
                have hbW2 : RowKit.Below wr.heap.size wr W2 := hb3w.trans (hb2.mono hb3w.size)
                have hkW2 := hk3.trans hk2
                have B82 := B83.below hb2
                have kc2 := kcW.trans (KC.of_below (m := w1.heap.size) (X := fun b => b = wr.heap.size) hb2)
                have c82 := B82.cell 0
                have f82 := B82.frozen 0
                simp only [List.getElem?_toArray, List.getElem?_cons_zero] at c82
                clear c8 c2 c3 c6 c4' f4' f8' c6k
                by_cases h6 : k = 60
                · subst h6
                  gi_wp2
                  have hkk := hkW2.trans (KeepsOthers.setCell W2 ⟨wr.heap.size, 0, none⟩ (.int .i64 61))
                  exact ⟨hkk.from _, .inl ⟨rfl, B82.set_ 0 (.int .i64 61), hbW2.setCell (p := ⟨wr.heap.size, 0, none⟩) (by simp) _⟩⟩
                · have h5 : k < 60 := by omega
                  gi_wp2
                  have hkk := hkW2.trans (KeepsOthers.setCell W2 ⟨wr.heap.size, 0, none⟩ (.int .i64 ((k : Int) + 1)))
                  refine ⟨hkk.from _, kc2.setCell (p := ⟨wr.heap.size, 0, none⟩) (.inr rfl) _, ?_, hbW2.setCell (p := ⟨wr.heap.size, 0, none⟩) (by simp) _, Hpn.out (by simp), by have := Hk.out; simp only [List.length_append, List.length_singleton]; omega⟩
                  exact cast (congrArg (fun z => Blk _ _ _ #[Value.int .i64 z]) (by have := Hk.out; simp only [List.length_append, List.length_singleton]; omega : (k : Int) + 1 = ((pre ++ [y]).length : Nat))) (B82.set_ 0 (.int .i64 ((k : Int) + 1)))
              · exact absurd hp hnp
            case body2 =>
              rintro l3 pre2 z W2 hl3 _ ⟨BK2, hb2, hpre2, h2⟩ hlen2
              simp only [List.setIfInBounds_toArray, List.set_cons_succ, List.set_cons_zero]
              obtain ⟨u, hu⟩ : ∃ u, (eachL (normR l))[pre2.length]? = some u := ⟨_, List.getElem?_eq_getElem hlen2⟩
              have Hat2 := Lib.hid (show atR l (pre2.length : Int) = (u, true) by rw [Hget.out, hu])
              have Hpn2 := Lib.hid (fun h : z = u => by subst h; exact (take_next hpre2 hu : pre2 ++ [z] = (eachL (normR l)).take (pre2 ++ [z]).length))
              have Hne2 : Hid (¬ z = u → ¬ pre2 ++ [z] <+: eachL (normR l)) := Lib.hid (fun h hp => by
                have := prefix_next hp
                rw [hu] at this
                injection this with this
                exact h this.symm)
              have ck := BK2.cell 0
              have fk := BK2.frozen 0
              have ka2 := (kaW.below hb3).below hb2
              have c22 := cell_keep c2 hb2
              have c42 := cell_keep c4' hb2
              have f42 := (((B4Z.below hbW).below hb3).below hb2).frozen 0
              simp only [List.getElem?_toArray, List.getElem?_cons_zero] at ck
              obtain ⟨j, hj⟩ : ∃ j, j = pre2.length := ⟨_, rfl⟩
              rw [← hj] at ck h2 hu Hat2 BK2
              have Hj := Lib.hid hj
              clear hj hu hpre2 hlen2 c8 c2 c3 c6 c4' f4' f8' c6k
              gi_wp2_with fail
              refine ⟨trivial, (CallsIn.inRound l3 (CallsIn.inRound l2 (callsIn_wide.2 (slsAt (j : Int) (by omega) ka2)))).mono ?_⟩
              rintro e w5 ⟨rfl, hb5⟩
              rw [Hat2.out]
              have hk5 : KeepsOthers W2 w5 := ⟨hb5.size, fun j o hj _ => (hb5.block j (Array.getElem?_eq_some_iff.1 hj).1).trans hj⟩
              have kc5 := KC.of_below (m := w1.heap.size) (X := fun b => b = w3.heap.size) hb5
              have BK5 := BK2.below hb5
              have hb35 : RowKit.Below w3.heap.size w3 w5 := hb2.trans (hb5.mono hb2.size)
              replace ck := cell_keep ck hb5
              replace fk := BK5.frozen 0
              replace c42 := cell_keep c42 hb5
              replace f42 := ((((B4Z.below hbW).below hb3).below hb2).below hb5).frozen 0
              clear c22
              by_cases hz : z = u
              · subst hz
                by_cases h6 : j = 2
                · subst h6
                  gi_wp2
                  have hkk := hk5.trans (KeepsOthers.setCell w5 ⟨w3.heap.size, 0, none⟩ (.int .i64 3))
                  exact ⟨hkk.from _, .inl ⟨rfl, hb35.setCell (p := ⟨w3.heap.size, 0, none⟩) (by simp) _⟩⟩
                · have h5 : j < 2 := by omega
                  gi_wp2
                  have hkk := hk5.trans (KeepsOthers.setCell w5 ⟨w3.heap.size, 0, none⟩ (.int .i64 ((j : Int) + 1)))
                  refine ⟨hkk.from _, kc5.setCell (p := ⟨w3.heap.size, 0, none⟩) (.inr rfl) _, ?_, hb35.setCell (p := ⟨w3.heap.size, 0, none⟩) (by simp) _, Hpn2.out (by simp), by have := Hj.out; simp only [List.length_append, List.length_singleton]; omega⟩
                  exact cast (congrArg (fun z => Blk _ _ _ #[Value.int .i64 z]) (by have := Hj.out; simp only [List.length_append, List.length_singleton]; omega : (j : Int) + 1 = ((pre2 ++ [z]).length : Nat))) (BK5.set_ 0 (.int .i64 ((j : Int) + 1)))
              · have hne : ((z : Int) != u) = true := by rw [bne_iff_ne]; exact hz
                have hnp := Lib.hid (Hne2.out hz)
                gi_wp2
                exact ⟨(hk5.trans (KeepsOthers.setCell _ _ _)).from _, .inr ⟨rfl, hnp.out⟩⟩
        · have hne : ((y : Int) != v) = true := by rw [bne_iff_ne]; exact hx
          have hnp := Lib.hid (Hne.out hx)
          clear hx
          gi_wp2
          exact ⟨(hk3.trans (KeepsOthers.setCell _ _ _)).from _, .inr ⟨rfl, hnp.out⟩⟩
end Go.Proofs.YteelepiaegpkhaaDoor
