/-
  runes.Each: the iterator over a set's runes.
-/
import Derived.Test.YteelepiaegpkhaaDoorRunT
namespace Go.Proofs.YteelepiaegpkhaaDoor
open Go.RowKit Go.Shelf
attribute [local go_sem] Oper.semAt_some

/-- The runes of one range; of a list of ranges. -/
def spanR (lo : Int) (n : Nat) : List Int := (List.range n).map fun (i : Nat) => lo + (i : Int)
def eachL (L : List (Int × Int)) : List Int := L.flatMap fun x => spanR x.1 (x.2 - x.1 + 1).toNat
theorem spanR_succ (lo : Int) (n : Nat) : spanR lo (n + 1) = spanR lo n ++ [lo + (n : Int)] := by unfold spanR; rw [List.range_succ, List.map_append]; rfl
theorem spanR_prefix (lo : Int) {j n : Nat} (h : j ≤ n) : spanR lo j <+: spanR lo n := by
  obtain ⟨k, rfl⟩ := Nat.exists_eq_add_of_le h
  induction k with
  | zero => exact List.prefix_refl _
  | succ k ih => rw [← Nat.add_assoc, spanR_succ]; exact (ih (by omega)).trans (List.prefix_append _ _)
theorem eachL_take {L : List (Int × Int)} {i : Nat} {x : Int × Int} (h : L[i]? = some x) : eachL (L.take (i + 1)) = eachL (L.take i) ++ spanR x.1 (x.2 - x.1 + 1).toNat := by
  unfold eachL; rw [List.take_add_one, h, Option.toList_some, List.flatMap_append]; simp
theorem eachL_prefix {L : List (Int × Int)} {i j : Nat} {x : Int × Int} (h : L[i]? = some x) (hj : j ≤ (x.2 - x.1 + 1).toNat) : eachL (L.take i) ++ spanR x.1 j <+: eachL L := by
  have h1 : eachL (L.take i) ++ spanR x.1 j <+: eachL (L.take (i + 1)) := by rw [eachL_take h]; exact (List.prefix_append_right_inj _).2 (spanR_prefix _ hj)
  refine h1.trans ?_
  refine ⟨eachL (L.drop (i + 1)), ?_⟩
  unfold eachL
  rw [← List.flatMap_append, List.take_append_drop]
/-- Cells from block m on stand as they stood, but for the blocks of X. -/
structure KC (m : Nat) (X : Nat → Prop) (W W' : World) : Prop where
  size : W.heap.size ≤ W'.heap.size
  same : ∀ (k : Nat) (o : Obj), m ≤ k → ¬ X k → W.heap[k]? = some o → o.isCells = true → W'.heap[k]? = some o
  walks : KeepsWalks W W'
theorem KC.refl (m : Nat) (X : Nat → Prop) (W : World) : KC m X W W := ⟨Nat.le_refl _, fun _ _ _ _ h _ => h, KeepsWalks.refl _⟩
theorem KC.trans {m : Nat} {X : Nat → Prop} {A B C : World} (h : KC m X A B) (k : KC m X B C) : KC m X A C :=
  ⟨Nat.le_trans h.size k.size, fun i o hm hx ho hc => k.same i o hm hx (h.same i o hm hx ho hc) hc, h.walks.trans k.walks⟩
theorem KC.put {m : Nat} {X : Nat → Prop} (W : World) (l : Nat) (o o' : Obj) (h : W.heap[l]? = some o) (hc : o.isCells = false) (hw : o.isWalk = false) : KC m X W (W.putObj l o') :=
  ⟨by simp, fun k o2 _ _ hk hk2 => by
    by_cases e : k = l
    · subst e; rw [h] at hk; cases hk; rw [hc] at hk2; cases hk2
    · exact (World.putObj_heap_other e).trans hk, KeepsWalks.putObj o' h hw⟩
theorem KC.blk {m : Nat} {X : Nat → Prop} {W W' : World} (h : KC m X W W') {g : Nat} {t : TypeId} {cs : Array Value} (hB : Blk W g t cs) (hm : m ≤ g) (hx : ¬ X g) : Blk W' g t cs := h.same g _ hm hx hB rfl
theorem KC.cell {m : Nat} {X : Nat → Prop} {W W' : World} (h : KC m X W W') {b i : Nat} {v : Value} (hv : W.cell? ⟨b, i, none⟩ = some v) (hm : m ≤ b) (hx : ¬ X b) : W'.cell? ⟨b, i, none⟩ = some v := by
  cases ho : W.heap[b]? with
  | none => unfold World.cell? at hv; rw [ho] at hv; cases hv
  | some o =>
    cases hc : o.isCells with
    | true => exact (World.cell?_of_block ((h.same b o hm hx ho hc).trans ho.symm)).trans hv
    | false => unfold World.cell? at hv; rw [ho] at hv; cases o <;> simp_all [Obj.isCells]
theorem KC.rd {m : Nat} {X : Nat → Prop} {w w' : World} {s : Nat} {A : Option Addr} {cs : List (List Value)} (h : KC m X w w') (hr : Rd w s A cs) (hA : ∀ a, A = some a → m ≤ a.block ∧ ¬ X a.block) : Rd w' s A cs :=
  hr.keep fun b off _ _ ha hp => h.cell hp (hA ⟨b, off, none⟩ ha).1 (hA ⟨b, off, none⟩ ha).2

set_option maxRecDepth 100000 in
set_option maxHeartbeats 2000000 in
theorem each1_in (n : Nat) (hn : 1 ≤ n) (l bx m : Nat) (X : Nat → Prop) (A : Option Addr) (na ca : Nat) (L : List (Int × Int)) (J Jx : List Int → World → Prop) (W : World)
    (hna : na ≤ 4000000) (hl : L.length = na) (hr : ∀ x ∈ L, 0 ≤ x.1 ∧ x.1 ≤ x.2 ∧ x.2 ≤ 1114111)
    (hJ : AbidesFrom W.heap.size J) (hX : ∀ b, X b → b < W.heap.size) (hm : m ≤ W.heap.size) (hAn : ∀ a, A = some a → m ≤ a.block ∧ ¬ X a.block)
    (hc : W.cell? ⟨bx, 0, none⟩ = some (.slice A na ca)) (hA : Rd W 2 A (L.map encR))
    (hY : ∀ pre x W1, J pre W1 → pre ++ [x] <+: eachL L → YieldAt Fence.wide (n - 1) Tryd.prog l #[.int .i32 x] W1 fun e W' =>
      (e = .returned (.bool true) ∧ J (pre ++ [x]) W' ∧ KC m X W1 W') ∨ (e = .returned (.bool false) ∧ Jx (pre ++ [x]) W'))
    (h0 : J [] W) :
    CallsIn Fence.wide n Tryd.prog 57 #[.func (.yield l) #[] #[], .pointer (some ⟨bx, 0, none⟩)] W fun e W' => (∃ v, e = .returned v) ∧
      ((∃ xs, xs = eachL L ∧ J xs W') ∨ (∃ pre, pre <+: eachL L ∧ Jx pre W')) := by
  have Hl := Lib.hid hl
  clear hl
  refine callsIn_of_wp Tryd.func57 rfl trivial ?_ rfl
  simp only [Tryd.ntmps57, List.size_toArray, List.length_cons, List.length_nil, Nat.reduceAdd, Nat.reduceSub, Array.replicate_succ, Array.replicate_zero, List.push_toArray, List.append_toArray, List.nil_append, List.cons_append]
  gi_wp2
  gi_loopw [8] (fun v wr => ∃ i : Nat, i ≤ na ∧ v = .int .i64 i ∧ J (eachL (L.take i)) wr ∧ Rd wr 2 A (L.map encR) ∧ W.heap.size ≤ wr.heap.size) (fun v _ => na - (intOf v).toNat)
  case atStart => exact ⟨0, by omega, rfl, h0, hA, Nat.le_refl _⟩
  case round =>
    obtain ⟨i, hi, rfl, hJs, hAr, hsz⟩ := hrel
    by_cases hlt : i < na
    · obtain ⟨⟨lo, hi2⟩, hx⟩ : ∃ x, L[i]? = some x := ⟨_, List.getElem?_eq_getElem (by have := Hl.out; omega)⟩
      have hb := hr _ (List.mem_of_getElem? hx)
      simp only at hb
      obtain ⟨qb, qo, rfl, hcells⟩ := hAr (by rw [Ne, List.map_eq_nil_iff]; intro e; rw [e] at hx; cases hx)
      have hxe : (L.map encR)[i]? = some (encR (lo, hi2)) := by rw [List.getElem?_map, hx]; rfl
      have d0 := hcells i 0 (encR (lo, hi2)) (.int .i32 lo) hxe rfl
      have d1 := hcells i 1 (encR (lo, hi2)) (.int .i32 hi2) hxe rfl
      simp only [Nat.add_zero] at d0 d1
      have hJa : J (eachL (L.take i)) (wr.alloc (.cells #[.int .i32 lo, .int .i32 hi2] 37)) := abides_below hJ hJs ((RowKit.Below.refl _ _).alloc (Nat.le_refl _) _)
      have hAa := hAr.alloc (.cells #[.int .i32 lo, .int .i32 hi2] 37)
      have Ba : Blk (wr.alloc (.cells #[.int .i32 lo, .int .i32 hi2] 37)) wr.heap.size 37 #[.int .i32 lo, .int .i32 hi2] := Blk.new _ _ _
      have hza : (wr.alloc (.cells #[.int .i32 lo, .int .i32 hi2] 37)).heap.size = wr.heap.size + 1 := by simp
      gi_wp2_with fail
      generalize (wr.alloc (.cells #[.int .i32 lo, .int .i32 hi2] 37)) = wa at hJa hAa Ba hza ⊢
      gi_loopw [5] (fun v wr2 => ∃ j : Nat, v = .int .i32 (lo + j) ∧ lo + j ≤ hi2 + 1 ∧ J (eachL (L.take i) ++ spanR lo j) wr2 ∧ Rd wr2 2 (some ⟨qb, qo, none⟩) (L.map encR) ∧ Blk wr2 wr.heap.size 37 #[.int .i32 lo, .int .i32 hi2] ∧ W.heap.size ≤ wr2.heap.size) (fun v _ => (hi2 + 1 - intOf v).toNat)
      case atStart => exact ⟨0, by simp, by omega, by simpa [spanR] using hJa, hAa, Ba, by omega⟩
      case round =>
        clear hJs hAr hJa hAa Ba
        obtain ⟨j, rfl, hj, hJ2, hA2, B2, hz2⟩ := hrel
        have c1 := B2.cell 1
        simp only [List.getElem?_toArray, List.getElem?_cons_succ, List.getElem?_cons_zero] at c1
        by_cases hle : lo + (j : Int) ≤ hi2
        · have hp : eachL (L.take i) ++ spanR lo j ++ [lo + (j : Int)] <+: eachL L := by
            rw [List.append_assoc, ← spanR_succ]
            exact eachL_prefix hx (by simp only; omega)
          obtain ⟨fn, tmps, assign, body, hy, hR⟩ := hY _ _ _ hJ2 hp
          gi_wp2_with fail
          refine hR.mono ?_
          rintro e W3 (⟨rfl, hJ3, hk⟩ | ⟨rfl, hJx⟩)
          · have hA3 := hk.rd hA2 hAn
            have B3 := hk.blk B2 (Nat.le_trans hm hsz) (fun h => by have := hX _ h; omega)
            have hz3 := hk.size
            gi_wp2
            go_roundw
            case rel => exact ⟨j + 1, by go_num, by omega, by rw [spanR_succ, ← List.append_assoc]; exact hJ3, hA3, B3, by omega⟩
            case measure => simp [intOf]; omega
          · gi_wp2
            refine bodyPost_ret (results_none rfl _ _ _) rfl ?_
            exact ⟨⟨_, rfl⟩, .inr ⟨_, hp, hJx⟩⟩
        · gi_wp2
          go_roundw
          case rel => exact ⟨i + 1, by omega, by go_num, by rw [eachL_take hx, show (hi2 - lo + 1).toNat = j by omega]; exact hJ2, hA2, hz2⟩
          case measure => simp [intOf]; omega
    · obtain rfl : i = na := by omega
      rw [List.take_of_length_le (by have := Hl.out; omega)] at hJs
      gi_wp2
      go_end0
      exact ⟨⟨_, rfl⟩, .inl ⟨_, rfl, hJs⟩⟩

/-- What the iterator's box holds; m: where its blocks begin. -/
def EachIt (w : World) (L : List (Int × Int)) (m bx : Nat) : Prop :=
  ∃ A na ca, w.cell? ⟨bx, 0, none⟩ = some (.slice A na ca) ∧ Rd w 2 A (L.map encR) ∧ L.length = na ∧ na ≤ 4000000 ∧ m ≤ bx ∧ ∀ a, A = some a → m ≤ a.block ∧ a.block < w.heap.size
theorem each_stops (n : Nat) (hn : 1 ≤ n) (w : World) (L : List (Int × Int)) (m bx : Nat) (X : Nat → Prop) (hr : ∀ x ∈ L, 0 ≤ x.1 ∧ x.1 ≤ x.2 ∧ x.2 ≤ 1114111) (w0 : World) (hw : RowKit.Below w.heap.size w w0) (hm : m ≤ w.heap.size) (hX : ∀ b, X b → w.heap.size ≤ b ∧ b < w0.heap.size) (h : EachIt w L m bx) :
    SeqStopsK Fence.wide n Tryd.prog 57 #[.pointer (some ⟨bx, 0, none⟩)] (fun x : Int => #[Value.int .i32 x]) (KC m X) (fun ys => ys = eachL L) (fun pre => pre <+: eachL L) (eachL L).length w0 := by
  intro l J Jx W hW hJ _ hY h0
  obtain ⟨A, na, ca, h1, h2, h3, h4, h5, h6⟩ := h
  have hwW : RowKit.Below w.heap.size w W := hw.trans (hW.mono hw.size)
  have hzW := hW.size
  exact each1_in n hn l bx m X A na ca L J Jx W h4 h3 hr hJ (fun b hb => by have := (hX b hb).2; omega) (Nat.le_trans hm hwW.size) (fun a ha => ⟨(h6 a ha).1, fun hx => by have := (hX _ hx).1; have := (h6 a ha).2; omega⟩)
    (cell_keep h1 hwW) (h2.below hwW) (fun pre x W1 hj hp => hY pre x W1 hj (by have := hp.length_le; simp at this; omega)) h0
theorem rEach_any (A : Option Addr) (n c : Nat) (l : List (Int × Int)) (w : World) (hA : Rd w 2 A (l.map encR)) (hl : l.length = n) (hn : n ≤ 4000000) :
    Calls Tryd.prog 24 #[.slice A n c] w fun e w' => ∃ bx, e = .returned (.func (.func 57) #[] #[.pointer (some ⟨bx, 0, none⟩)]) ∧ EachIt w' (normR l) w.heap.size bx ∧ RowKit.Below w.heap.size w w' := by
  have Hl := Lib.hid hl
  clear hl
  have HNF := Lib.hid (normR_NF l)
  have hmf : ∀ (fn : Fn) (first cap : Array Value) (w : World), (Instr.makeFunc fn first cap).run Tryd.prog w = .ok (.func fn first cap) w := fun _ _ _ _ => rfl
  go_enter Tryd.func24, Tryd.ntmps24
  go_wp2_with fail
  refine (rNorm_any A n c l _ hA Hl.out hn).mono ?_
  rintro e w1 ⟨A1, n1, c1, rfl, ho1, hb1⟩
  go_wp2
  go_ret
  refine ⟨_, rfl, ⟨A1, n1, c1, (Blk.new w1 23 #[.slice A1 n1 c1]).cell 0, (ho1.rd (by omega)).alloc _, by simpa using ho1.len, by have := own_nf_len ho1 HNF.out; omega, hb1.size, fun a ha => by have := ho1.lt a ha; simp at this ⊢; omega⟩, hb1.alloc hb1.size _⟩
end Go.Proofs.YteelepiaegpkhaaDoor
