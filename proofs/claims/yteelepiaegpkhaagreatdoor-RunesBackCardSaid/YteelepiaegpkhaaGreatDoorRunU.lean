/-
  runes.Keep: what is in a set.
-/
import Derived.Test.YteelepiaegpkhaaGreatDoorRunT
import Derived.Test.YteelepiaegpkhaaGreatDoorBld
namespace Go.Proofs.YteelepiaegpkhaaGreatDoor
open Go.RowKit Go.Shelf
attribute [local go_sem] Oper.semAt_some

def spansP (s : ByteArray) (l : List (Nat × Nat)) : List UInt8 := l.flatMap fun y => (s.extract y.1 y.2).data.toList
def keptGo (h : Int → Bool) (s : ByteArray) (l : List (Nat × Nat × Nat)) : List UInt8 := (l.filter fun x => h x.1).flatMap fun x => (s.extract x.2.1 x.2.2).data.toList
theorem extract_add (s : ByteArray) {a b c : Nat} (h1 : a ≤ b) (h2 : b ≤ c) : (s.extract a c).data.toList = (s.extract a b).data.toList ++ (s.extract b c).data.toList := by
  rw [Lib.extract_data, Lib.extract_data, Lib.extract_data]
  rw [show c - a = (b - a) + (c - b) by omega, List.take_add, List.drop_drop, show a + (b - a) = b by omega]
theorem spans_none (h : Int → Bool) (s : ByteArray) : ∀ (f p : Nat), s.size ≤ p + f → p ≤ s.size →
    spansP s (runsGo h s.size none (runesGo s f p)) = keptGo h s (runesGo s f p) ∧ ∀ a, a ≤ p → spansP s (runsGo h s.size (some a) (runesGo s f p)) = (s.extract a p).data.toList ++ keptGo h s (runesGo s f p)
  | 0, p, h1, h2 => by
    obtain rfl : p = s.size := by omega
    refine ⟨rfl, fun a _ => ?_⟩
    simp [runesGo, runsGo, spansP, keptGo]
  | f + 1, p, h1, h2 => by
    by_cases hp : p < s.size
    · have hd := dec_bd s p hp
      obtain ⟨ih1, ih2⟩ := spans_none h s f (p + (Utf8.decode s p).2) (by omega) (by omega)
      rw [runesGo, if_pos hp]
      generalize Utf8.decode s p = d at *
      obtain ⟨R, W⟩ := d
      simp only at *
      cases hh : h (R : Int) with
      | true =>
        have e1 : keptGo h s ((R, p, p + W) :: runesGo s f (p + W)) = (s.extract p (p + W)).data.toList ++ keptGo h s (runesGo s f (p + W)) := by
          simp [keptGo, hh]
        refine ⟨?_, fun a ha => ?_⟩
        · rw [runsGo, if_pos hh, ih2 p (by omega), e1]
        · rw [runsGo, if_pos hh, ih2 a (by omega), e1, extract_add s ha (by omega : p ≤ p + W), List.append_assoc]
      | false =>
        have e1 : keptGo h s ((R, p, p + W) :: runesGo s f (p + W)) = keptGo h s (runesGo s f (p + W)) := by
          simp [keptGo, hh]
        refine ⟨?_, fun a ha => ?_⟩
        · rw [runsGo, if_neg (by rw [hh]; exact Bool.false_ne_true), ih1, e1]
        · rw [runsGo, if_neg (by rw [hh]; exact Bool.false_ne_true), e1, ← ih1]; rfl
    · obtain rfl : p = s.size := by omega
      rw [runesGo_end (Nat.le_refl _)]
      refine ⟨rfl, fun a _ => ?_⟩
      simp [runsGo, spansP, keptGo]
theorem spans_runs (s : ByteArray) (set : List (Int × Int)) : spansP s (runsP s set) = keepP s set := (spans_none (hasB set) s s.size 0 (by omega) (by omega)).1
theorem hasB_normR (l : List (Int × Int)) : hasB (normR l) = hasB l := by
  funext r
  rw [Bool.eq_iff_iff, hasB_iff, hasB_iff, hasP_normR]
theorem runsP_normR (s : ByteArray) (l : List (Int × Int)) : runsP s (normR l) = runsP s l := by unfold runsP; rw [hasB_normR]
theorem spans_len (s : ByteArray) : ∀ (l : List (Span s)), (spansP s (l.map (·.1))).length ≤ l.length * s.size
  | [] => by simp [spansP]
  | x :: l => by
    have ih := spans_len s l
    have hx : (s.extract x.1.1 x.1.2).data.toList.length ≤ s.size := by rw [Lib.extract_data, List.length_take, List.length_drop, size_data]; omega
    simp only [spansP, List.map_cons, List.flatMap_cons, List.length_append, List.length_cons, Nat.add_mul, Nat.one_mul] at *
    omega
theorem spans_snoc (s : ByteArray) (l : List (Span s)) (x : Span s) : spansP s ((l ++ [x]).map (·.1)) = spansP s (l.map (·.1)) ++ (s.extract x.1.1 x.1.2).data.toList := by
  simp [spansP]

set_option maxRecDepth 100000 in
set_option maxHeartbeats 2000000 in
theorem rKeep_any (s : ByteArray) (A : Option Addr) (n c : Nat) (l : List (Int × Int)) (w : World) (hA : Rd w 2 A (l.map encR)) (hl : l.length = n) (hn : n ≤ 4000000) (hs : s.size ≤ 1000000) :
    Calls Tryz.prog 15 #[.string s, .slice A n c] w fun e w' => e = .returned (.string ⟨(keepP s l).toArray⟩) ∧ RowKit.Below w.heap.size w w' := by
  have Hl := Lib.hid hl
  clear hl
  refine (callsIn_wide (n := 3)).1 ?_
  refine callsIn_of_wp_marks Tryz.func15 rfl trivial ?_ rfl
  simp only [Tryz.ntmps15, List.size_toArray, List.length_cons, List.length_nil, Nat.reduceAdd, Nat.reduceSub, Array.replicate_succ, Array.replicate_zero, List.push_toArray, List.append_toArray, List.nil_append, List.cons_append]
  have hb0 : RowKit.Below w.heap.size w ((w.alloc (.cells #[.string s] 9)).alloc (.cells #[.pointer none, .slice none 0 0] 52)) := ((RowKit.Below.refl _ _).alloc (Nat.le_refl _) _).alloc (by simp) _
  have hB0 : ∀ B, Bld ((w.alloc (.cells #[.string s] 9)).alloc (.cells #[.pointer none, .slice none 0 0] 52)) (w.heap.size + 1) B [] := fun B => by
    have := Bld.new (w.alloc (.cells #[.string s] 9)) B
    simpa using this
  have hC0 : ((w.alloc (.cells #[.string s] 9)).alloc (.cells #[.pointer none, .slice none 0 0] 52)).cell? ⟨w.heap.size, 0, none⟩ = some (.string s) := ((Blk.new w 9 #[.string s]).alloc _).cell 0
  have hz0 : ((w.alloc (.cells #[.string s] 9)).alloc (.cells #[.pointer none, .slice none 0 0] 52)).heap.size = w.heap.size + 2 := by simp
  gi_wp2_with fail
  have hrun := rRuns_any s A n c l _ (hA.below hb0) Hl.out hn
  generalize ((w.alloc (.cells #[.string s] 9)).alloc (.cells #[.pointer none, .slice none 0 0] 52)) = w0 at hb0 hB0 hC0 hz0 hrun ⊢
  refine ⟨trivial, ((callsIn_wide (n := 2)).2 hrun).mono ?_⟩
  rintro e w1 ⟨bs, bset, rfl, hit, hb1⟩
  rw [hz0] at hit
  have hB1 := (hB0 w1.heap.size).below hb1
  have hC1 := cell_keep hC0 hb1
  have hbw1 := below_step hb0 hb1 hb0.size
  have hz1 : w.heap.size + 2 ≤ w1.heap.size := by have := hb1.size; omega
  clear hrun hB0 hC0 hb1
  gi_wp2_with fail
  refine wpIn_rangeFunc_ownG rfl (by decide) (gf := 35) (lb := #[.pointer (some ⟨bs, 0, none⟩), .pointer (some ⟨bset, 0, none⟩)]) rfl trivial (enters_of Tryz.func35 (by kernel_rfl) rfl)
    (runs_stops 2 (by decide) w1 s (normR l) (w.heap.size + 2) bs bset hs hit) Kp.trans (Kp.put (Nat.le_refl _)) (RowKit.Below.refl _ _) (fun _ => rfl)
    (fun pre W => (Bld W (w.heap.size + 1) w1.heap.size (spansP s (pre.map (·.1))) ∧ W.cell? ⟨w.heap.size, 0, none⟩ = some (.string s)) ∧ RowKit.Below w.heap.size w W ∧ w1.heap.size ≤ W.heap.size)
    (fun _ _ _ => False)
    (OwnFrom.and (Go.Own.from (fun s A B row hs hg hr => ⟨hs.1.kept hg hr, cell_kept hs.2 hg hr⟩) _) (OwnFrom.and (ownFrom_below (Nat.le_refl _) (by omega)) (fun _ _ _ _ hs hg _ => Nat.le_trans hs hg.size)))
    (fun _ _ _ _ _ hs _ _ => hs)
    ⟨⟨hB1, hC1⟩, hbw1, Nat.le_refl _⟩
    (fun x => { tmps := #[.string s, .slice A n c, .pointer (some ⟨w.heap.size, 0, none⟩), undef, .string ⟨#[]⟩, .pointer (some ⟨w.heap.size + 1, 0, none⟩), .int .i64 x.1.1, .int .i64 x.1.2, .string s, .slice A n c,
      .func (.func 35) #[] #[.pointer (some ⟨bs, 0, none⟩), .pointer (some ⟨bset, 0, none⟩)], .int .i64 x.1.1, .int .i64 x.1.2, undef, undef, undef, undef, undef, undef], defers := [] }) ?assign ?body ?done ?stop
  case assign =>
    intro l x W K hK
    simp only [encP]
    gi_wp2
    exact hK
  case body =>
    rintro l2 pre x W ⟨⟨hB, hC⟩, hb, hWs⟩ hlen
    obtain ⟨⟨a, b⟩, hab, hbs2⟩ := x
    have hpl : (spansP s (pre.map (·.1))).length ≤ pre.length * s.size := spans_len s pre
    have hN := runsP_len s (normR l)
    have hlen2 : (spansP s (pre.map (·.1))).length + (s.extract a b).size ≤ 140737488355328 := by
      rw [ByteArray.size_extract]
      have : pre.length * s.size ≤ 1000001 * 1000000 := Nat.mul_le_mul (by omega) hs
      omega
    have hsn := Lib.hid (spans_snoc s pre ⟨(a, b), hab, hbs2⟩)
    clear hpl hN hlen
    simp only at hab hbs2
    gi_wp2_with fail
    refine ⟨trivial, (CallsIn.inRound l2 (callsIn_wide.2 (lWriteString_any (w.heap.size + 1) w1.heap.size _ (s.extract a b) W hB (by omega) hlen2 hWs))).mono ?_⟩
    rintro e W2 ⟨rfl, hB2, hb2, hm2, hko⟩
    gi_wp2
    refine ⟨hko.from _, ⟨⟨hko.size, fun k h1 h2 => hm2 k (by omega) h2⟩, hko.walks⟩, ⟨by rw [hsn.out]; exact hB2, cell_below hC (by simp) hb2⟩, hb.trans (hb2.mono (by omega)), Nat.le_trans hWs hko.size⟩
  case done =>
    rintro D ys W hD hys ⟨⟨hB, _⟩, hb, hWs⟩ hK
    rw [hys, spans_runs, show keepP s (normR l) = keepP s l by unfold keepP; rw [hasB_normR]] at hB
    gi_wp2_with fail
    refine ⟨trivial, (callsIn_wide.2 (bString_any (w.heap.size + 1) w1.heap.size _ W hB (by omega))).mono ?_⟩
    rintro e W2 ⟨rfl, hb2, hk2⟩
    have hK2 := hk2 D _ hK (fun e => by injection e; omega) (fun c fz e => by cases e)
    gi_wp2
    refine ⟨by simp, .inl ⟨_, _, rfl, run_takeDeferred hK2, ?_⟩⟩
    exact ⟨_, results_tmp rfl _ _ _, rfl, (hb.trans (hb2.mono (by omega))).trans (belowK_b (w := w) (Nat.le_refl _) W2 D _ _ (by omega) hK2 rfl rfl)⟩
  case stop =>
    rintro D c pre W _ _ h _
    exact h.elim
end Go.Proofs.YteelepiaegpkhaaGreatDoor
