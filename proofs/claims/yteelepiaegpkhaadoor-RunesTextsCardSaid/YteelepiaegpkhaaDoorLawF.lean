/-
  kerflaw02.RunesTexts, walked.
-/
import Derived.Test.YteelepiaegpkhaaDoorSl
import Derived.Test.YteelepiaegpkhaaDoorOfA
import Derived.Test.YteelepiaegpkhaaDoorRefZ
import Derived.Test.YteelepiaegpkhaaDoorRunV
import Derived.Deep.RegionHeld3
import Derived.Laws.EntriesVeiled
import Derived.Test.YteelepiaegpkhaaDoorRng
namespace Go.Proofs.YteelepiaegpkhaaDoor
open Go.RowKit Go.Shelf
attribute [local go_sem] Oper.semAt_some

theorem res_txt (w : World) (b : Nat) (tmps : Array Value) (ht : tmps.getD 6 undef = .pointer (some ⟨b, 0, none⟩)) {v : Bool} (hc : w.cell? ⟨b, 0, none⟩ = some (.bool v)) : (results Tryd.f6 tmps).run Tryd.prog w = .ok (.bool v) w := by
  have ht' : tmps[6]?.getD undef = .pointer (some ⟨b, 0, none⟩) := by simpa [Array.getD_eq_getD_getElem?] using ht
  simp [results, Tryd.results6, go_sem, ht', hc]
theorem seq2_nil (fn : Fn) (first captured : Array Value) (W : World) : (binOp .eql 51 (.func fn first captured) .nilFunc).run Tryd.prog W = .ok (.bool false) W := by kernel_rfl
theorem encI2_get {R : List (Nat × Nat)} {k a b : Nat} (h : R[k]? = some (a, b)) : (encI2 R)[2 * k]? = some [.int .i64 a] ∧ (encI2 R)[2 * k + 1]? = some [.int .i64 b] := by
  have hs : R = R.take k ++ (a, b) :: R.drop (k + 1) := by
    obtain ⟨hk, he⟩ := List.getElem?_eq_some_iff.1 h
    rw [← he, ← List.drop_eq_getElem_cons hk, List.take_append_drop]
  have hk : (R.take k).length = k := by
    have := (List.getElem?_eq_some_iff.1 h).1
    rw [List.length_take]; omega
  have e : encI2 R = encI2 (R.take k) ++ ([.int .i64 a] :: [.int .i64 b] :: encI2 (R.drop (k + 1))) := by
    conv => lhs; rw [hs]
    rw [encI2_append]; rfl
  have hl : (encI2 (R.take k)).length = 2 * k := by rw [encI2_len, hk]; omega
  rw [e, List.getElem?_append_right (by omega), List.getElem?_append_right (by omega), hl]
  constructor
  · rw [Nat.sub_self]; rfl
  · rw [show 2 * k + 1 - 2 * k = 1 by omega]; rfl
def spn {s : ByteArray} (l : List (Span s)) : List (Nat × Nat) := l.map (·.1)
theorem prefix_next {α : Type} {R pre : List α} {x : α} (h : pre ++ [x] <+: R) : R[pre.length]? = some x := by
  obtain ⟨r, rfl⟩ := h
  simp
theorem take_next {α : Type} {R pre : List α} {x : α} (hp : pre = R.take pre.length) (hx : R[pre.length]? = some x) : pre ++ [x] = R.take (pre ++ [x]).length := by
  rw [List.length_append, List.length_singleton, List.take_add_one, hx, Option.toList_some, ← hp]

set_option maxRecDepth 100000 in
set_option maxHeartbeats 4000000 in
theorem kRunesTexts_any (s : ByteArray) (A : Option Addr) (n c : Nat) (l : List (Int × Int)) (stop : Int) (w : World) (hT : Tabs w) (hm : s.size ≤ maxLen) (hA : Rd w 2 A (l.map encR)) (ha : l.length = n) (hn : n ≤ maxLen) :
    Calls Tryd.prog 6 #[.string s, .slice A n c, .int .i64 stop] w fun e w' => e = .returned (.bool true) ∧ RowKit.Below w.heap.size w w' := by
  unfold maxLen at hn hm
  have HB : RowKit.Below w.heap.size w ((w.alloc (.cells #[.int .i64 stop] 3)).alloc (.cells #[.bool false] 4)) := ((RowKit.Below.refl _ _).alloc (Nat.le_refl _) _).alloc (by simp) _
  have B5 : Blk ((w.alloc (.cells #[.int .i64 stop] 3)).alloc (.cells #[.bool false] 4)) w.heap.size 3 #[.int .i64 stop] := (Blk.new w 3 #[.int .i64 stop]).alloc _
  have B6 : Blk ((w.alloc (.cells #[.int .i64 stop] 3)).alloc (.cells #[.bool false] 4)) (w.heap.size + 1) 4 #[.bool false] := by
    have := Blk.new (w.alloc (.cells #[.int .i64 stop] 3)) 4 #[.bool false]
    simpa using this
  have hA0 := hA.below HB
  refine (callsIn_wide (n := 6)).1 ?_
  refine callsIn_of_wp_marks Tryd.func6 rfl trivial ?_ rfl
  simp only [Tryd.ntmps6, List.size_toArray, List.length_cons, List.length_nil, Nat.reduceAdd, Nat.reduceSub, Array.replicate_succ, Array.replicate_zero, List.push_toArray, List.append_toArray, List.nil_append, List.cons_append]
  refine wpIn_wide.2 ?_
  by_cases h1 : 20000 < s.size
  · clear hA0 hA ha
    go_wp2_with fail
    generalize ((w.alloc (.cells #[.int .i64 stop] 3)).alloc (.cells #[.bool false] 4)) = w0 at HB B5 B6 ⊢
    refine (klive_any _ (hT.below HB)).mono ?_
    rintro e wz ⟨rfl, hb⟩
    replace B6 := B6.below hb
    replace HB := below_two HB hb
    have c6 := B6.cell 0
    have f6 := B6.frozen 0
    simp only [List.getElem?_toArray, List.getElem?_cons_zero] at c6
    go_wp2_with fail
    have c7 := (B6.set_ 0 (.bool true)).cell 0
    simp only [List.getElem?_toArray, List.getElem?_cons_zero, List.setIfInBounds_toArray, List.set_cons_zero] at c7
    exact ⟨_, res_txt _ (w.heap.size + 1) _ rfl c7, rfl, HB.setCell (p := ⟨w.heap.size + 1, 0, none⟩) (by simp) _⟩
  by_cases h2 : 60 < n
  · clear hA0 hA ha
    go_wp2_with fail
    generalize ((w.alloc (.cells #[.int .i64 stop] 3)).alloc (.cells #[.bool false] 4)) = w0 at HB B5 B6 ⊢
    refine (klive_any _ (hT.below HB)).mono ?_
    rintro e wz ⟨rfl, hb⟩
    replace B6 := B6.below hb
    replace HB := below_two HB hb
    have c6 := B6.cell 0
    have f6 := B6.frozen 0
    simp only [List.getElem?_toArray, List.getElem?_cons_zero] at c6
    go_wp2_with fail
    have c7 := (B6.set_ 0 (.bool true)).cell 0
    simp only [List.getElem?_toArray, List.getElem?_cons_zero, List.setIfInBounds_toArray, List.set_cons_zero] at c7
    exact ⟨_, res_txt _ (w.heap.size + 1) _ rfl c7, rfl, HB.setCell (p := ⟨w.heap.size + 1, 0, none⟩) (by simp) _⟩
  have hn6 : n ≤ 60 := by omega
  have hs6 : s.size ≤ 20000 := by omega
  have hs9 : s.size ≤ 1000000 := by omega
  clear h1 h2 hn hm
  have ka : Sl ((w.alloc (.cells #[.int .i64 stop] 3)).alloc (.cells #[.bool false] 4)) A n l := ⟨hA0, ha, by omega⟩
  clear hA0
  go_wp2_with fail
  generalize ((w.alloc (.cells #[.int .i64 stop] 3)).alloc (.cells #[.bool false] 4)) = w0 at HB B5 B6 ka ⊢
  go_wp2_with fail
  refine (slOwn ka).mono ?_
  rintro e w1 ⟨g1, c1, rfl, kx, hb, hg1⟩
  clear hg1
  replace ka := ka.below hb
  replace B5 := B5.below hb
  replace B6 := B6.below hb
  replace HB := below_two HB hb
  clear hb
  go_wp2_with fail
  refine (rTrim_any s _ n c1 l _ kx.sl.rd kx.sl.len (by omega) hs9).mono ?_
  rintro e w2 ⟨rfl, hb⟩
  replace ka := ka.below hb
  replace B5 := B5.below hb
  replace B6 := B6.below hb
  replace kx := kx.below hb
  replace HB := below_two HB hb
  clear hb
  go_wp2_with fail
  refine (sTrim_any s A n c l _ ka.rd ka.len (by omega) hs9).mono ?_
  rintro e w3 ⟨rfl, hb⟩
  replace ka := ka.below hb
  replace B5 := B5.below hb
  replace B6 := B6.below hb
  replace kx := kx.below hb
  replace HB := below_two HB hb
  clear hb
  have HNo := Lib.hid (normR_NF ((runesP s).map fun x => ((x.1 : Int), (x.1 : Int))))
  go_wp2_with fail
  refine (rOf_any s _ hs9).mono ?_
  rintro e w4 ⟨A4, n4, c4, rfl, po, hb⟩
  have kp := Sl.own po HNo.out
  clear po
  replace ka := ka.below hb
  replace B5 := B5.below hb
  replace B6 := B6.below hb
  replace kx := kx.below hb
  replace HB := below_two HB hb
  clear hb
  go_wp2_with fail
  refine (sOf_any s _ hs9).mono ?_
  rintro e w5 ⟨A5, n5, c5, rfl, po, hb⟩
  have kq := Sl.own po HNo.out
  clear po
  replace ka := ka.below hb
  replace B5 := B5.below hb
  replace B6 := B6.below hb
  replace kx := kx.below hb
  replace kp := kp.below hb
  replace HB := below_two HB hb
  clear hb
  go_wp2_with fail
  refine (slSame kp kq rfl).mono ?_
  rintro e w6 ⟨rfl, hb⟩
  replace ka := ka.below hb
  replace B5 := B5.below hb
  replace B6 := B6.below hb
  replace kx := kx.below hb
  replace kp := kp.below hb
  replace kq := kq.below hb
  replace HB := below_two HB hb
  clear hb
  clear kp kq
  go_wp2_with fail
  refine (rKeep_any s _ n c1 l _ kx.sl.rd kx.sl.len (by omega) hs9).mono ?_
  rintro e w7 ⟨rfl, hb⟩
  replace ka := ka.below hb
  replace B5 := B5.below hb
  replace B6 := B6.below hb
  replace kx := kx.below hb
  replace HB := below_two HB hb
  clear hb
  go_wp2_with fail
  refine (sKeep_any s A n c l _ ka.rd ka.len (by omega) hs9).mono ?_
  rintro e w8 ⟨rfl, hb⟩
  replace ka := ka.below hb
  replace B5 := B5.below hb
  replace B6 := B6.below hb
  replace kx := kx.below hb
  replace HB := below_two HB hb
  clear hb
  go_wp2_with fail
  refine (rRuns_any s _ n c1 l _ kx.sl.rd kx.sl.len (by omega)).mono ?_
  rintro e wr ⟨bs, bset, rfl, hit, hb⟩
  have hm0 := hit.lt
  replace ka := ka.below hb
  replace B5 := B5.below hb
  replace B6 := B6.below hb
  replace kx := kx.below hb
  replace HB := below_two HB hb
  clear hb
  have hnil := seq2_nil (.func 60) #[] #[.pointer (some ⟨bs, 0, none⟩), .pointer (some ⟨bset, 0, none⟩)]
  have hbA : RowKit.Below wr.heap.size wr (wr.alloc (.cells #[.func (.func 60) #[] #[.pointer (some ⟨bs, 0, none⟩), .pointer (some ⟨bset, 0, none⟩)]] 51)) := (RowKit.Below.refl _ _).alloc (Nat.le_refl _) _
  have B12 : Blk (wr.alloc (.cells #[.func (.func 60) #[] #[.pointer (some ⟨bs, 0, none⟩), .pointer (some ⟨bset, 0, none⟩)]] 51)) wr.heap.size 51 #[.func (.func 60) #[] #[.pointer (some ⟨bs, 0, none⟩), .pointer (some ⟨bset, 0, none⟩)]] := Blk.new _ _ _
  go_wp2_with fail
  generalize (wr.alloc (.cells #[.func (.func 60) #[] #[.pointer (some ⟨bs, 0, none⟩), .pointer (some ⟨bset, 0, none⟩)]] 51)) = wa at hbA B12 ⊢
  have HBr := HB
  have hbr := hbA
  have hb := hbA
  replace ka := ka.below hb
  replace B5 := B5.below hb
  replace B6 := B6.below hb
  replace kx := kx.below hb
  replace HB := below_two HB hb
  clear hb
  refine (sRuns_any s A n c l _ ka.rd ka.len (by omega) hs9).mono ?_
  rintro e wb ⟨Aw, nw, cw, rfl, ow, hb⟩
  have hbB := hb
  replace ka := ka.below hb
  replace B5 := B5.below hb
  replace B6 := B6.below hb
  replace kx := kx.below hb
  replace B12 := B12.below hb
  replace HB := below_two HB hb
  clear hb
  have hbD : RowKit.Below wb.heap.size wb (wb.alloc (.cells #[.slice Aw nw cw] 53)) := (RowKit.Below.refl _ _).alloc (Nat.le_refl _) _
  have B13 : Blk (wb.alloc (.cells #[.slice Aw nw cw] 53)) wb.heap.size 53 #[.slice Aw nw cw] := Blk.new _ _ _
  have owD := ow.alloc (.cells #[.slice Aw nw cw] 53)
  have hzD : (wb.alloc (.cells #[.slice Aw nw cw] 53)).heap.size = wb.heap.size + 1 := by simp
  have hb := hbD
  replace ka := ka.below hb
  replace B5 := B5.below hb
  replace B6 := B6.below hb
  replace kx := kx.below hb
  replace B12 := B12.below hb
  replace HB := below_two HB hb
  clear hb
  have hbE : RowKit.Below (wb.alloc (.cells #[.slice Aw nw cw] 53)).heap.size (wb.alloc (.cells #[.slice Aw nw cw] 53)) ((wb.alloc (.cells #[.slice Aw nw cw] 53)).alloc (.cells #[.int .i64 0] 3)) := (RowKit.Below.refl _ _).alloc (Nat.le_refl _) _
  have B14 : Blk ((wb.alloc (.cells #[.slice Aw nw cw] 53)).alloc (.cells #[.int .i64 0] 3)) (wb.heap.size + 1) 3 #[.int .i64 0] := by
    have := Blk.new (wb.alloc (.cells #[.slice Aw nw cw] 53)) 3 #[.int .i64 0]
    simpa using this
  have c12 := (B12.alloc (.cells #[.int .i64 0] 3)).cell 0
  simp only [List.getElem?_toArray, List.getElem?_cons_zero] at c12
  go_wp2_with fail
  generalize ((wb.alloc (.cells #[.slice Aw nw cw] 53)).alloc (.cells #[.int .i64 0] 3)) = wE at hbE B14 c12 ⊢
  generalize (wb.alloc (.cells #[.slice Aw nw cw] 53)) = wD at hbE hzD hbD B5 B6 B12 B13 ka kx HB owD ⊢
  refine (wpIn_wide (n := 6)).1 ?_
  have hbRE : RowKit.Below wr.heap.size wr wE := below_two (below_two (below_two hbr hbB) hbD) hbE
  have hzE := hbRE.size
  have hzDE := hbE.size
  have hzr := HBr.size
  have hrB := (below_two hbr hbB).size
  have HRn := Lib.hid (runsP_normR s l)
  have HRl := Lib.hid (runsP_len s l)
  refine rngH rfl (by decide) (gf := 60) (lb := #[.pointer (some ⟨bs, 0, none⟩), .pointer (some ⟨bset, 0, none⟩)]) rfl trivial (enters_of Tryd.func60 (by kernel_rfl) rfl)
    (runs_stops 5 (by decide) wr s (normR l) w8.heap.size bs bset hs9 hit) Kp.trans (Kp.put hzE) hbRE (fun _ => rfl) (Kp.refl _ _)
    (fun (pre : List (Span s)) W => Blk W (wb.heap.size + 1) 3 #[.int .i64 (2 * pre.length : Nat)] ∧ RowKit.Below wD.heap.size wD W ∧ spn pre = (runsP s l).take pre.length)
    (fun _ pre _ => ¬ spn pre <+: runsP s l)
    (OwnFrom.and (Go.Own.from (fun s A B row hs hg hr => hs.kept hg hr) _) (OwnFrom.and (ownFrom_below (Nat.le_refl _) hzDE) (fun _ _ _ _ hs _ _ => hs)))
    (fun _ _ _ _ _ hs _ _ => hs)
    ⟨B14, hbE, rfl⟩
    (fun T (x : Span s) => (((T.setIfInBounds 76 (.int .i64 x.1.1)).setIfInBounds 77 (.int .i64 x.1.2)).setIfInBounds 15 (.int .i64 x.1.1)).setIfInBounds 16 (.int .i64 x.1.2)) ?assign ?body ?done ?stop
  case assign =>
    intro l2 x W K hK
    simp only [List.setIfInBounds_toArray, List.set_cons_succ, List.set_cons_zero] at hK
    simp only [encP]
    gi_wp2
    exact hK
  case stop =>
    rintro D cc pre W _ hp h _
    rw [HRn.out] at hp
    exact absurd hp h
  case done =>
    rintro D ys W hD hys ⟨B14, hbW, _⟩ hK
    rw [HRn.out] at hys
    have hnw : nw = 2 * ys.length := by have h1 := ow.len; rw [encI2_len, ← hys, List.length_map] at h1; omega
    have hy9 : ys.length ≤ 20001 := by have h1 := HRl.out; rw [← hys, List.length_map] at h1; omega
    rw [← hnw] at B14
    have hzW := hbW.size
    have c14 := B14.cell 0
    have c13 := (B13.below hbW).cell 0
    have kaW := ka.below hbW
    have kxW := kx.below hbW
    have HBW := below_two HB hbW
    have B6W := B6.below hbW
    simp only [List.getElem?_toArray, List.getElem?_cons_zero] at c14 c13
    have Hsz := Lib.hid (And.intro hzE (And.intro hzDE (And.intro hzr (And.intro hrB (And.intro hzD (And.intro hzW (And.intro B6.lt hD)))))))
    clear hnw hm0 hzE hzDE hzr hrB hn6 hs6 hzD
    go_wp2_with fail
    refine (slKept kxW kaW).mono ?_
    rintro e wk ⟨rfl, hb⟩
    have hKk := (hb.block D (Array.getElem?_eq_some_iff.1 hK).1).trans hK
    replace B6W := B6W.below hb
    replace HBW := below_two HBW hb
    go_wp2_with fail
    refine (klive_any _ (hT.below HBW)).mono ?_
    rintro e wz ⟨rfl, hb⟩
    replace hKk := (hb.block D (Array.getElem?_eq_some_iff.1 hKk).1).trans hKk
    replace B6W := B6W.below hb
    replace HBW := below_two HBW hb
    have c6 := B6W.cell 0
    have f6 := B6W.frozen 0
    simp only [List.getElem?_toArray, List.getElem?_cons_zero] at c6
    go_wp2_with fail
    have B6Z := B6W.set_ 0 (.bool true)
    have hK3 : (wz.setCell ⟨w.heap.size + 1, 0, none⟩ (.bool true)).heap[D]? = some (.deferred (some [])) := (Below.heap_setCell wz ⟨w.heap.size + 1, 0, none⟩ _ D (by have := Hsz.out; simp only; omega)).trans hKk
    have c7 := B6Z.cell 0
    simp only [List.getElem?_toArray, List.getElem?_cons_zero, List.setIfInBounds_toArray, List.set_cons_zero] at c7
    have HB9 := HBW.setCell (p := ⟨w.heap.size + 1, 0, none⟩) (by simp) (.bool true)
    refine ⟨by simp, .inl ⟨_, _, rfl, run_takeDeferred hK3, ?_⟩⟩
    refine ⟨_, res_txt _ (w.heap.size + 1) _ rfl ((World.cell?_of_block (World.putObj_heap_other (by have := Hsz.out; simp only; omega))).trans c7), rfl, HB9.trans (belowK_b (w := w) (Nat.le_refl _) _ D _ _ (by have := Hsz.out; omega) hK3 rfl rfl)⟩
  case body =>
    rintro l2 pre ⟨⟨a, b⟩, hab, hbz⟩ W hl2 ⟨r0, hr0⟩ ⟨B14, hbW, hpre⟩ hlen
    simp only [List.setIfInBounds_toArray, List.set_cons_succ, List.set_cons_zero]
    rw [HRn.out] at hlen
    obtain ⟨⟨a0, b0⟩, hx0⟩ : ∃ y, (runsP s l)[pre.length]? = some y := ⟨_, List.getElem?_eq_getElem hlen⟩
    have hw2 := encI2_get hx0
    have hk9 : pre.length ≤ 20001 := by have := HRl.out; omega
    have hnw : nw = (runsP s l).length * 2 := by rw [← encI2_len]; exact ow.len.symm
    obtain ⟨gw, rfl, _, hgw⟩ := owD.form (by omega)
    obtain ⟨j, hj⟩ : ∃ j, j = 2 * pre.length := ⟨_, rfl⟩
    have hjn : j + 1 < nw := by omega
    rw [← hj] at B14 hw2
    have owW := owD.below hbW
    have d0 := owW.cell (k := j) (j := 0) hw2.1 rfl
    have d1 := owW.cell (k := j + 1) (j := 0) hw2.2 rfl
    simp only [Nat.mul_one, Nat.add_zero] at d0 d1
    have c14 := B14.cell 0
    have f14 := B14.frozen 0
    have c13 := (B13.below hbW).cell 0
    have c12 := (B12.below hbW).cell 0
    have c5 := (B5.below hbW).cell 0
    have c6 := (B6.below hbW).cell 0
    have f6 := (B6.below hbW).frozen 0
    simp only [List.getElem?_toArray, List.getElem?_cons_zero] at c14 c13 c12 c5 c6
    have hj9 : j ≤ 40002 := by omega
    have Hj := Lib.hid hj
    have Hpn : Hid (a = a0 ∧ b = b0 → spn (pre ++ [(⟨(a, b), hab, hbz⟩ : Span s)]) = (runsP s l).take (pre ++ [(⟨(a, b), hab, hbz⟩ : Span s)]).length) := Lib.hid (fun h => by obtain ⟨rfl, rfl⟩ := h; rw [List.length_append, List.length_singleton, List.take_add_one, hx0, ← hpre]; simp [spn])
    have Hne : Hid (¬ (a = a0 ∧ b = b0) → ¬ spn (pre ++ [(⟨(a, b), hab, hbz⟩ : Span s)]) <+: runsP s l) := Lib.hid (fun h hp => by
      have hq : spn (pre ++ [(⟨(a, b), hab, hbz⟩ : Span s)]) = spn pre ++ [(a, b)] := by simp [spn]
      rw [hq] at hp
      have := prefix_next hp
      rw [show (spn pre).length = pre.length by simp [spn], hx0] at this
      simp at this; exact h ⟨this.1.symm, this.2.symm⟩)
    simp only at hab hbz
    clear hw2 hj hnw
    by_cases hx : a = a0 ∧ b = b0
    · obtain ⟨rfl, rfl⟩ := hx
      have hj0 : (0 : Int) ≤ (j : Int) := by omega
      have hw1 : IntKind.i64.wrap ((j : Int) + 1) = (j : Int) + 1 := IntWalk.i64_in _ (by omega)
      have hjI : ((j : Int) + 1) < (nw : Int) := by omega
      have Hsz := Lib.hid (And.intro hm0 (And.intro hzE (And.intro hzDE (And.intro hzr (And.intro hrB hzD)))))
      have Hk9 := Lib.hid (And.intro hk9 (And.intro hab hbz))
      clear hm0 hzE hzDE hzr hrB hk9 hn6 hs6 hzD hgw
      obtain ⟨bq, hbq⟩ : ∃ q, ((j : Int) == wrap64 (2 * stop)) = q := ⟨_, rfl⟩
      cases bq with
      | false =>
        gi_wp2
        have hkk := KeepsOthers.setCell W ⟨wb.heap.size + 1, 0, none⟩ (.int .i64 ((j : Int) + 2))
        refine ⟨hkk.from _, ⟨(Mid.refl _ _ _).setCell (p := ⟨wb.heap.size + 1, 0, none⟩) (.inr (by have := Hsz.out; simp only; omega)) _, hkk.walks⟩, ?_, hbW.setCell (p := ⟨wb.heap.size + 1, 0, none⟩) (by have := Hsz.out; simp only; omega) _, Hpn.out (by simp)⟩
        exact cast (congrArg (fun z => Blk _ _ _ #[Value.int .i64 z]) (by have := Hj.out; simp only [List.length_append, List.length_singleton]; omega : (j : Int) + 2 = ((2 * (pre ++ [(⟨(a, b), hab, hbz⟩ : Span s)]).length : Nat) : Int))) (B14.set_ 0 (.int .i64 ((j : Int) + 2)))
      | true =>
        have hbRW := below_two (below_two (below_two hbr hbB) hbD) hbW
        obtain ⟨⟨p0, q0⟩, hy0⟩ : ∃ y, (runsP s l)[0]? = some y := ⟨_, List.getElem?_eq_getElem (by omega)⟩
        have hg0 := encI2_get hy0
        have e0 := owW.cell (k := 0) (j := 0) hg0.1 rfl
        have e1 := owW.cell (k := 1) (j := 0) hg0.2 rfl
        simp only [Nat.mul_one, Nat.add_zero] at e0 e1
        clear hg0
        gi_wp2_with fail
        refine rngN (l₀ := l2) (r₀ := r0) rfl hr0 (by decide) (gf := 60) (lb := #[.pointer (some ⟨bs, 0, none⟩), .pointer (some ⟨bset, 0, none⟩)]) rfl trivial (enters_of Tryd.func60 (by kernel_rfl) rfl)
          ((runs_stops 3 (by decide) wr s (normR l) w8.heap.size bs bset hs9 hit).inRound l2) Kp.trans (Kp.put hbRW.size) hbRW (fun _ => rfl) (Kp.refl _ _)
          (fun (pre2 : List (Span s)) W2 => pre2 = [] ∧ RowKit.Below W.heap.size W W2)
          (fun cc pre2 W2 => (cc = .exit 2 ∧ RowKit.Below W.heap.size W W2) ∨ (cc = .ret ∧ ¬ spn pre2 <+: runsP s l))
          (OwnFrom.and (fun _ _ _ _ hs _ _ => hs) (ownFrom_below (Nat.le_refl _) (Nat.le_refl _)))
          (fun cc pre2 A B row hs hg hr => hs.imp (fun h => ⟨h.1, ownFrom_below (β := Unit) (Nat.le_refl W.heap.size) (Nat.le_refl _) () A B row h.2 hg hr⟩) id)
          ⟨rfl, RowKit.Below.refl _ _⟩
          (fun T (y : Span s) => (((T.setIfInBounds 105 (.int .i64 y.1.1)).setIfInBounds 106 (.int .i64 y.1.2)).setIfInBounds 17 (.int .i64 y.1.1)).setIfInBounds 18 (.int .i64 y.1.2)) ?assign2 ?body2 ?done2 ?stop2
        case assign2 =>
          intro l3 y W2 K hK
          simp only [List.setIfInBounds_toArray, List.set_cons_succ, List.set_cons_zero] at hK
          simp only [encP]
          gi_wp2
          exact hK
        case done2 =>
          rintro ys W2 hys ⟨rfl, _⟩
          rw [HRn.out] at hys
          rw [← hys] at hy0
          cases hy0
        case body2 =>
          rintro l3 pre2 ⟨⟨p, q⟩, hpq, hqz⟩ W2 _ _ ⟨rfl, hb2⟩ _
          have hk2 : KeepsOthers W W2 := ⟨hb2.size, fun k o hk _ => (hb2.block k (Array.getElem?_eq_some_iff.1 hk).1).trans hk⟩
          have owX := owW.below hb2
          have e0x := hb2.cell (p := ⟨gw, 0, none⟩) (cell_lt e0)
          rw [e0] at e0x
          have e1x := hb2.cell (p := ⟨gw, 1, none⟩) (cell_lt e1)
          rw [e1] at e1x
          have c13x := ((B13.below hbW).below hb2).cell 0
          have c6x := ((B6.below hbW).below hb2).cell 0
          have f6x := ((B6.below hbW).below hb2).frozen 0
          simp only [List.getElem?_toArray, List.getElem?_cons_zero] at c13x c6x
          have Hnp : Hid (¬ (p = p0 ∧ q = q0) → ¬ spn [(⟨(p, q), hpq, hqz⟩ : Span s)] <+: runsP s l) := Lib.hid (fun h hp => by
            have := prefix_next (pre := []) hp
            rw [List.length_nil, hy0] at this
            simp at this; exact h ⟨this.1.symm, this.2.symm⟩)
          simp only at hpq hqz
          simp only [List.setIfInBounds_toArray, List.set_cons_succ, List.set_cons_zero]
          clear hbq hy0 c12 c13 c14 c5 c6 d0 d1 e0 e1 f6 f14
          have hn0 : (0 : Int) < (nw : Int) := by omega
          have hn1 : (1 : Int) < (nw : Int) := by omega
          by_cases h0 : p = p0
          · by_cases h3 : q = q0
            · subst h0 h3
              gi_wp2
              exact ⟨KeepsFrom.refl _ _, .inl ⟨rfl, hb2⟩⟩
            · subst h0
              have hne : ((q : Int) == (q0 : Int)) = false := by rw [beq_eq_false_iff_ne]; omega
              gi_wp2
              exact ⟨(KeepsOthers.setCell _ _ _).from _, .inr ⟨rfl, Hnp.out (by simp; omega)⟩⟩
          · have hne : ((p : Int) == (p0 : Int)) = false := by rw [beq_eq_false_iff_ne]; omega
            gi_wp2
            exact ⟨(KeepsOthers.setCell _ _ _).from _, .inr ⟨rfl, Hnp.out (by simp; omega)⟩⟩
        case stop2 =>
          rintro cc pre2 W2 hp (⟨rfl, hb2⟩ | ⟨rfl, hnp⟩)
          · have B14x := B14.below hb2
            have c14x := B14x.cell 0
            have f14x := B14x.frozen 0
            simp only [List.getElem?_toArray, List.getElem?_cons_zero] at c14x
            have hk2 : KeepsOthers W W2 := ⟨hb2.size, fun k o hk _ => (hb2.block k (Array.getElem?_eq_some_iff.1 hk).1).trans hk⟩
            gi_wp2
            have hkk := hk2.trans (KeepsOthers.setCell W2 ⟨wb.heap.size + 1, 0, none⟩ (.int .i64 ((j : Int) + 2)))
            refine ⟨hkk.from _, ⟨(Mid.of_below hb2 (by have := Hsz.out; have := hbW.size; omega)).setCell (p := ⟨wb.heap.size + 1, 0, none⟩) (.inr (by have := Hsz.out; simp only; omega)) _, hkk.walks⟩, ?_, (hbW.trans (hb2.mono hbW.size)).setCell (p := ⟨wb.heap.size + 1, 0, none⟩) (by have := Hsz.out; simp only; omega) _, Hpn.out (by simp)⟩
            exact cast (congrArg (fun z => Blk _ _ _ #[Value.int .i64 z]) (by have := Hj.out; simp only [List.length_append, List.length_singleton]; omega : (j : Int) + 2 = ((2 * (pre ++ [(⟨(a, b), hab, hbz⟩ : Span s)]).length : Nat) : Int))) (B14x.set_ 0 (.int .i64 ((j : Int) + 2)))
          · rw [HRn.out] at hp
            exact absurd hp hnp
    · have hjI : ((j : Int) + 1) < (nw : Int) := by omega
      have hj0 : (0 : Int) ≤ (j : Int) := by omega
      have hw1 : IntKind.i64.wrap ((j : Int) + 1) = (j : Int) + 1 := IntWalk.i64_in _ (by omega)
      have hnp := Hne.out hx
      have Hnp := Lib.hid hnp
      clear hnp
      clear hm0 hzE hzDE hzr hrB hk9 hn6 hs6 hlen hzD hgw
      by_cases h0 : a = a0
      · have h3 : ¬ b = b0 := fun h => hx ⟨h0, h⟩
        subst h0
        have hne : ((b : Int) != (b0 : Int)) = true := by rw [bne_iff_ne]; omega
        clear hx
        gi_wp2
        exact ⟨(KeepsOthers.setCell _ _ _).from _, Hnp.out⟩
      · have hne : ((a : Int) == (a0 : Int)) = false := by rw [beq_eq_false_iff_ne]; omega
        clear hx
        gi_wp2
        exact ⟨(KeepsOthers.setCell _ _ _).from _, Hnp.out⟩
end Go.Proofs.YteelepiaegpkhaaDoor
