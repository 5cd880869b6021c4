/-
  Several texts in one, in their build order: UtfP, Qh.
-/
import Derived.Lib.DecodeN
import Derived.Lib.RuneCountTail
import Derived.Deep.RegionHeld3
import Derived.Test.YtejccafolfeabaaGreatDoorZ1
import Derived.Test.YtejccafolfeabaaGreatDoorZ2
import Derived.Test.YtejccafolfeabaaGreatDoorZ3
import Derived.Test.YtejccafolfeabaaGreatDoorZ4
import Derived.Test.YtejccafolfeabaaGreatDoorYTexts1
/-
  PLAIN: a text's runes lie one behind the other; a text's beginning has the runes that it had. No walk.
-/
namespace Go.Proofs.YtejccafolfeabaaGreatDoor

/-- Runes that lie one behind the other, from p to z. -/
def Contig : Nat → List (Nat × Nat × Nat) → Nat → Prop
  | p, [], z => p = z
  | p, x :: r, z => x.2.1 = p ∧ p < x.2.2 ∧ Contig x.2.2 r z
theorem runesGo_contig {s : ByteArray} : ∀ (f a : Nat), s.size ≤ a + f → a ≤ s.size → Contig a (runesGo s f a) s.size
  | 0, a, h, h2 => by simp only [runesGo, Contig]; omega
  | f + 1, a, h, h2 => by
    rw [runesGo]
    split
    · rename_i hlt
      have hd := dec_bd s a hlt
      exact ⟨rfl, by simp only; omega, runesGo_contig f _ (by simp only; omega) (by simp only; omega)⟩
    · show a = s.size; omega
theorem runesP_contig (s : ByteArray) : Contig 0 (runesP s) s.size := runesGo_contig _ _ (by omega) (by omega)
theorem runesGo_dec {s : ByteArray} : ∀ (f a : Nat), ∀ x ∈ runesGo s f a, Utf8.decode s x.2.1 = (x.1, x.2.2 - x.2.1)
  | 0, a, x, h => by simp [runesGo] at h
  | f + 1, a, x, h => by
    rw [runesGo] at h
    split at h
    · rcases List.mem_cons.1 h with rfl | h
      · simp only; rw [Nat.add_sub_cancel_left]
      · exact runesGo_dec f _ x h
    · simp at h

/- Lengths. -/
theorem extract_len (s : ByteArray) {a b : Nat} (h : b ≤ s.size) : (s.extract a b).data.toList.length = b - a := by
  rw [size_data, ByteArray.size_extract]; omega
theorem decN_same {n m b0 b1 b2 b3 c1 c2 c3 R W : Nat} (h : Lib.decodeN n b0 b1 b2 b3 = (R, W)) (hv : R ≠ 65533 ∨ W = 3) (hm : W ≤ m) (h1 : 2 ≤ W → c1 = b1) (h2 : 3 ≤ W → c2 = b2) (h3 : 4 ≤ W → c3 = b3) :
    Lib.decodeN m b0 c1 c2 c3 = (R, W) := by
  unfold Lib.decodeN at h
  split at h
  · rename_i g0
    injection h with hR hW
    subst hR; subst hW
    unfold Lib.decodeN; rw [if_pos g0]
  · rename_i g0
    split at h
    · rename_i g1
      split at h
      · rename_i g2
        injection h with hR hW
        subst hR; subst hW
        obtain rfl := h1 (by omega)
        unfold Lib.decodeN; rw [if_neg g0, if_pos ⟨g1.1, by omega, g1.2.2⟩, if_pos g2]
      · injection h with hR hW
        subst hR; subst hW
        rcases hv with hv | hv <;> omega
    · rename_i g1
      split at h
      · rename_i g2
        split at h
        · rename_i g3
          injection h with hR hW
          subst hR; subst hW
          obtain rfl := h1 (by omega)
          obtain rfl := h2 (by omega)
          unfold Lib.decodeN; rw [if_neg g0, if_neg (by omega), if_pos ⟨g2.1, ⟨by omega, g2.2.1.2⟩, by omega, g2.2.2.2⟩, if_pos g3]
        · injection h with hR hW
          subst hR; subst hW
          rcases hv with hv | hv <;> omega
      · rename_i g2
        split at h
        · rename_i g3
          split at h
          · rename_i g4
            injection h with hR hW
            subst hR; subst hW
            obtain rfl := h1 (by omega)
            obtain rfl := h2 (by omega)
            obtain rfl := h3 (by omega)
            unfold Lib.decodeN; rw [if_neg g0, if_neg (by omega), if_neg (by omega), if_pos ⟨g3.1, ⟨by omega, g3.2.1.2⟩, ⟨by omega, g3.2.2.1.2⟩, by omega, g3.2.2.2.2⟩, if_pos g4]
          · injection h with hR hW
            subst hR; subst hW
            rcases hv with hv | hv <;> omega
        · injection h with hR hW
          subst hR; subst hW
          rcases hv with hv | hv <;> omega
theorem dec_same {s t : ByteArray} {i j R W : Nat} (h : Utf8.decode s i = (R, W)) (h1 : 1 ≤ W) (hv : R ≠ 65533 ∨ W = 3) (ht : j + W ≤ t.size) (hg : ∀ k, k < W → t.get! (j + k) = s.get! (i + k)) : Utf8.decode t j = (R, W) := by
  rw [Lib.decode_at] at h ⊢
  have h0 := hg 0 (by omega)
  rw [Nat.add_zero, Nat.add_zero] at h0
  rw [h0]
  exact decN_same h hv (by omega) (fun h => by rw [hg 1 (by omega)]) (fun h => by rw [hg 2 (by omega)]) (fun h => by rw [hg 3 (by omega)])

/- A text's beginning. -/
theorem decN_bad {n b0 b1 b2 b3 R W : Nat} (h : Lib.decodeN n b0 b1 b2 b3 = (R, W)) (hv : ¬ (R ≠ 65533 ∨ W = 3)) : R = 65533 ∧ W = 1 := by
  have hR : R = 65533 := Classical.byContradiction fun k => hv (.inl k)
  have hW : W ≠ 3 := fun k => hv (.inr k)
  refine ⟨hR, ?_⟩
  unfold Lib.decodeN at h
  repeat' split at h
  all_goals (injection h with h1 h2; omega)
theorem decN_prefix {n m b0 b1 b2 b3 c1 c2 c3 R W : Nat} (h : Lib.decodeN n b0 b1 b2 b3 = (R, W)) (hmn : m ≤ n) (hm : W ≤ m) (h1 : 2 ≤ m → c1 = b1) (h2 : 3 ≤ m → c2 = b2) (h3 : 4 ≤ m → c3 = b3) (hb : ∀ R' W', Lib.decodeN m b0 c1 c2 c3 = (R', W') → W' ≤ m) :
    Lib.decodeN m b0 c1 c2 c3 = (R, W) := by
  by_cases hv : R ≠ 65533 ∨ W = 3
  · exact decN_same h hv hm (fun k => h1 (by omega)) (fun k => h2 (by omega)) (fun k => h3 (by omega))
  · obtain ⟨⟨R', W'⟩, hD⟩ : ∃ d, Lib.decodeN m b0 c1 c2 c3 = d := ⟨_, rfl⟩
    have hw := hb R' W' hD
    by_cases hv' : R' ≠ 65533 ∨ W' = 3
    · have := decN_same (m := n) (c1 := b1) (c2 := b2) (c3 := b3) hD hv' (by omega) (fun k => (h1 (by omega)).symm) (fun k => (h2 (by omega)).symm) (fun k => (h3 (by omega)).symm)
      rw [hD, ← h, this]
    · obtain ⟨rfl, rfl⟩ := decN_bad h hv
      obtain ⟨rfl, rfl⟩ := decN_bad hD hv'
      exact hD
theorem get_prefix (s : ByteArray) {z k : Nat} (hk : k < z) : (s.extract 0 z).get! k = s.get! k := by
  rw [← Lib.getD_get!', ← Lib.getD_get!', ByteArray.data_extract, Array.toList_extract, List.extract_eq_take_drop, List.getD_eq_getElem?_getD, List.getD_eq_getElem?_getD, List.drop_zero, Nat.sub_zero, List.getElem?_take_of_lt hk]
theorem dec_prefix (s : ByteArray) {z i R W : Nat} (hz : z ≤ s.size) (h : Utf8.decode s i = (R, W)) (hi : i < z) (hw : i + W ≤ z) : Utf8.decode (s.extract 0 z) i = (R, W) := by
  have hsz : (s.extract 0 z).size = z := by rw [ByteArray.size_extract]; omega
  have hb := dec_bd (s.extract 0 z) i (by omega)
  rw [Lib.decode_at] at h hb ⊢
  rw [hsz] at hb ⊢
  have h0 := get_prefix s (k := i) hi
  rw [h0] at hb ⊢
  refine decN_prefix h (by omega) (by omega) (fun k => by rw [get_prefix s (by omega)]) (fun k => by rw [get_prefix s (by omega)]) (fun k => by rw [get_prefix s (by omega)]) fun R' W' hD => ?_
  rw [hD] at hb
  simp only at hb; omega
/-- Runes up to a place where one begins. -/
theorem runesGo_prefix (s : ByteArray) {z : Nat} (hz : z ≤ s.size) : ∀ (f g a : Nat), s.size ≤ a + f → z ≤ a + g → a ≤ z → (a = z ∨ z = s.size ∨ ∃ x ∈ runesGo s f a, x.2.1 = z) → runesGo (s.extract 0 z) g a = (runesGo s f a).takeWhile fun x => decide (x.2.1 < z)
  | 0, g, a, hf, hg, ha, _ => by
    have hsz : (s.extract 0 z).size = z := by rw [ByteArray.size_extract]; omega
    rw [runesGo_end (by omega)]; rfl
  | f + 1, g, a, hf, hg, ha, hx => by
    have hsz : (s.extract 0 z).size = z := by rw [ByteArray.size_extract]; omega
    by_cases haz : a = z
    · subst haz
      rw [runesGo_end (by omega)]
      rw [runesGo]
      split
      · rw [List.takeWhile_cons, if_neg (by simp)]
      · rfl
    · have hlt : a < s.size := by omega
      have hd := dec_bd s a hlt
      obtain ⟨⟨R, W⟩, hD⟩ : ∃ d, Utf8.decode s a = d := ⟨_, rfl⟩
      rw [hD] at hd
      simp only at hd
      have hr : runesGo s (f + 1) a = (R, a, a + W) :: runesGo s f (a + W) := by rw [runesGo, if_pos hlt, hD]
      have hle : a + W ≤ z ∧ (a + W = z ∨ z = s.size ∨ ∃ x ∈ runesGo s f (a + W), x.2.1 = z) := by
        rcases hx with h | h | ⟨x, hm, h⟩
        · omega
        · exact ⟨by omega, .inr (.inl h)⟩
        · rw [hr] at hm
          rcases List.mem_cons.1 hm with rfl | hm
          · simp only at h; omega
          · have := runesGo_bd _ _ x hm
            exact ⟨by omega, .inr (.inr ⟨x, hm, h⟩)⟩
      obtain ⟨k, rfl, hk⟩ := runesGo_step (s := s.extract 0 z) (f := g) (a := a) (by omega) (by omega)
      rw [hk, hr, dec_prefix s hz hD (by omega) hle.1, List.takeWhile_cons, if_pos (by simp; omega)]
      simp only
      rw [runesGo_prefix s hz f k (a + W) (by omega) (by omega) hle.1 hle.2]
theorem runesP_prefix (s : ByteArray) {z : Nat} (hz : z ≤ s.size) (h : z = 0 ∨ z = s.size ∨ ∃ x ∈ runesP s, x.2.1 = z) : runesP (s.extract 0 z) = (runesP s).takeWhile fun x => decide (x.2.1 < z) := by
  have hsz : (s.extract 0 z).size = z := by rw [ByteArray.size_extract]; omega
  unfold runesP
  rw [hsz]
  exact runesGo_prefix s hz s.size z 0 (by omega) (by omega) (by omega) (by rcases h with h | h; exact .inl h.symm; exact .inr h)
end Go.Proofs.YtejccafolfeabaaGreatDoor

/-
  kerflaw04.PropsTexts, walked.
-/
namespace Go.Proofs.YtejccafolfeabaaGreatDoor
open Go.RowKit Go.Shelf Go.Maps
attribute [local go_sem] Oper.semAt_some

theorem res_texts (w : World) (b : Nat) (tmps : Array Value) (ht : tmps.getD 6 undef = .pointer (some ⟨b, 0, none⟩)) {v : Bool} (hc : w.cell? ⟨b, 0, none⟩ = some (.bool v)) : (results Tryz.f7 tmps).run Tryz.prog w = .ok (.bool v) w := by
  have ht' : tmps[6]?.getD undef = .pointer (some ⟨b, 0, none⟩) := by simpa [Array.getD_eq_getD_getElem?] using ht
  simp [results, Tryz.results7, go_sem, ht', hc]
theorem kc_setCell {m : Nat} {X : Nat → Prop} {A B : World} (h : KC m X A B) {p : Addr} (hp : p.block < m ∨ X p.block) (u : Value) : KC m X A (B.setCell p u) :=
  ⟨by simpa [World.setCell] using h.size, fun k o hm hx ho hc => (Below.heap_setCell B p u k (by
    rintro rfl
    rcases hp with hp | hp
    · omega
    · exact hx hp)).trans (h.same k o hm hx ho hc), h.walks.trans (KeepsWalks.setCell B p u)⟩
theorem kc_below {m : Nat} {X : Nat → Prop} {A B : World} (h : RowKit.Below A.heap.size A B) : KC m X A B :=
  ⟨h.size, fun k _ _ _ hk _ => (h.block k (Array.getElem?_eq_some_iff.1 hk).1).trans hk, ⟨h.size, fun k _ hk _ => (h.block k (Array.getElem?_eq_some_iff.1 hk).1).trans hk⟩⟩
theorem pre_next {α : Type} {R pre : List α} {x : α} (h : pre ++ [x] <+: R) : R[pre.length]? = some x := by
  obtain ⟨r, rfl⟩ := h
  simp
theorem first_place {s : ByteArray} {v : Nat × Nat × Nat} (h : (runesP s)[0]? = some v) : v.2.1 = 0 := by
  have hc := runesP_contig s
  cases hq : runesP s with
  | nil => rw [hq] at h; simp at h
  | cons a r =>
    rw [hq] at h hc
    simp at h; subst h
    obtain ⟨R, p, z⟩ := a
    exact hc.1
theorem Own.cellN {w : World} {base : Nat} {e : TypeId} {g n c k : Nat} {l : List Nat} {x : Nat} (h : Own w base e 1 (some ⟨g, 0, none⟩) n c (l.map encN)) (hk : l[k]? = some x) : w.cell? ⟨g, k, none⟩ = some (.int .i64 (x : Nat)) := by
  have := h.cell (k := k) (j := 0) (x := encN x) (u := .int .i64 (x : Nat)) (by rw [List.getElem?_map, hk]; rfl) rfl
  simpa using this
theorem Own.cellRn {w : World} {base : Nat} {e : TypeId} {g n c k : Nat} {l : List (Nat × Nat × Nat)} {x : Nat × Nat × Nat} (h : Own w base e 3 (some ⟨g, 0, none⟩) n c (l.map encRn)) (hk : l[k]? = some x) : w.cell? ⟨g, k * 3 + 1, none⟩ = some (.int .i64 (x.2.1 : Nat)) :=
  h.cell (k := k) (j := 1) (x := encRn x) (by rw [List.getElem?_map, hk]; rfl) rfl
/-- A row of numbers, whatever numbers. -/
def encJ (x : Int) : List Value := [.int .i64 x]
theorem Own.storedJ {w : World} {base : Nat} {e : TypeId} {g n c k : Nat} {l : List Int} (h : Own w base e 1 (some ⟨g, 0, none⟩) n c (l.map encJ)) (hk : k < l.length) (x : Int) :
    Own (w.setCell ⟨g, k, none⟩ (.int .i64 x)) base e 1 (some ⟨g, 0, none⟩) n c ((l.set k x).map encJ) := by
  have h1 := h.stored (k := k) (j := 0) (x := encJ l[k]) (by simp [hk]) (by omega) (.int .i64 x)
  rw [Nat.mul_one, Nat.add_zero] at h1
  have e : (l.map encJ).set k ((encJ l[k]).set 0 (.int .i64 x)) = (l.set k x).map encJ := by rw [List.map_set]; rfl
  rw [e] at h1
  exact h1
theorem Own.cellJ {w : World} {base : Nat} {e : TypeId} {g n c k : Nat} {l : List Int} {x : Int} (h : Own w base e 1 (some ⟨g, 0, none⟩) n c (l.map encJ)) (hk : l[k]? = some x) : w.cell? ⟨g, k, none⟩ = some (.int .i64 x) := by
  have := h.cell (k := k) (j := 0) (x := encJ x) (u := .int .i64 x) (by rw [List.getElem?_map, hk]; rfl) rfl
  simpa using this
theorem Blk.ne {w : World} {g g' : Nat} {t t' : TypeId} {cs cs' : Array Value} (h : Blk w g t cs) (k : Blk w g' t' cs') (hne : t ≠ t') : g ≠ g' := by
  rintro rfl
  unfold Blk at h k
  rw [h] at k; injection k with k; injection k with _ e _
  exact hne e
/-- A database stands where only one test's block has turned. -/
theorem DbAt.grownBool {W V : World} {g p : Nat} {cs : Array Value} {d : DbP} (h : DbAt W p d) (hB : Blk W g 4 cs) (hg : W.grownBy V (some g)) : DbAt V p d := by
  obtain ⟨An, nn, cn, bm, nm, D, As, ns, cs', xs, Ar, nr, cr, h1, h2, h3, h4, h5, h6, h7⟩ := h.ex
  have t : (9 : TypeId) ≠ 4 ∧ (37 : TypeId) ≠ 4 ∧ (82 : TypeId) ≠ 4 ∧ (70 : TypeId) ≠ 4 ∧ (4 : TypeId) ≠ 80 := by decide
  refine ⟨An, nn, cn, bm, nm, D, As, ns, cs', xs, Ar, nr, cr, h1.grown hg (fun e => h1.ne hB t.2.2.2.1 (by injection e)), h2.grown hg (fun a ha e => h2.off hB t.1 a ha (by injection e)), map_kept h3 hg (fun e => hB.offMap h3 (by injection e with e; exact e.symm)), h4, h5.grown hg (fun a ha e => h5.off hB t.2.1 a ha (by injection e)), h6.grown hg (fun k q e => by injection e with e; subst e; exact blk_not_R hB t.2.2.2.2 q), h7.grown hg (fun a ha e => h7.off hB t.2.2.1 a ha (by injection e))⟩
set_option maxRecDepth 100000 in
set_option maxHeartbeats 8000000 in
theorem qPropsTexts_any (s t : ByteArray) (stop : Int) (w : World) (hE : Env w) (hs : s.size ≤ maxLen) (ht : t.size ≤ maxLen) :
    Calls Tryz.prog 7 #[.string s, .string t, .int .i64 stop] w fun e w' => e = .returned (.bool true) ∧ RowKit.Below w.heap.size w w' := by
  obtain ⟨u, rfl⟩ : ∃ u, s = bytesOf u := ⟨_, (bytesOf_data s).symm⟩
  rw [bytesOf_size] at hs
  have hsz : (bytesOf u).size = u.length := bytesOf_size u
  have hs0 := hs
  unfold maxLen at ht hs
  have HB : RowKit.Below w.heap.size w ((w.alloc (.cells #[.int .i64 stop] 3)).alloc (.cells #[.bool false] 4)) := ((RowKit.Below.refl _ _).alloc (Nat.le_refl _) _).alloc (by simp) _
  have B5 : Blk ((w.alloc (.cells #[.int .i64 stop] 3)).alloc (.cells #[.bool false] 4)) w.heap.size 3 #[.int .i64 stop] := (Blk.new w 3 #[.int .i64 stop]).alloc _
  have B6 : Blk ((w.alloc (.cells #[.int .i64 stop] 3)).alloc (.cells #[.bool false] 4)) (w.heap.size + 1) 4 #[.bool false] := by
    have := Blk.new (w.alloc (.cells #[.int .i64 stop] 3)) 4 #[.bool false]
    simpa using this
  refine (callsIn_wide (n := 8)).1 ?_
  refine callsIn_of_wp_marks Tryz.func7 rfl trivial ?_ rfl
  simp only [Tryz.ntmps7, List.size_toArray, List.length_cons, List.length_nil, Nat.reduceAdd, Nat.reduceSub, Array.replicate_succ, Array.replicate_zero, List.push_toArray, List.append_toArray, List.nil_append, List.cons_append]
  refine wpIn_wide.2 ?_
  rcases (by omega : 12000 < u.length ∨ (¬ 12000 < u.length ∧ 8000 < t.size) ∨ (¬ 12000 < u.length ∧ ¬ 8000 < t.size)) with h1 | ⟨h1, h2⟩ | ⟨h1, h2⟩
  · have d1 : decide (12000 < u.length) = true := decide_eq_true h1
    go_wp2_with fail
    generalize ((w.alloc (.cells #[.int .i64 stop] 3)).alloc (.cells #[.bool false] 4)) = w0 at HB B5 B6 ⊢
    refine (qlive_any _ (hE.below HB)).mono ?_
    rintro e wz ⟨rfl, hb⟩
    replace B6 := B6.below hb
    replace HB := below_two HB hb
    have c6 := B6.cell 0
    have f6 := B6.frozen 0
    simp only [List.getElem?_toArray, List.getElem?_cons_zero] at c6
    go_wp2_with fail
    have c7 := (B6.set_ 0 (.bool true)).cell 0
    simp only [List.getElem?_toArray, List.getElem?_cons_zero, List.setIfInBounds_toArray, List.set_cons_zero] at c7
    exact ⟨_, res_texts _ (w.heap.size + 1) _ rfl c7, rfl, HB.setCell (p := ⟨w.heap.size + 1, 0, none⟩) (by simp only; omega) _⟩
  · have d1 : decide (12000 < u.length) = false := decide_eq_false h1
    go_wp2_with fail
    generalize ((w.alloc (.cells #[.int .i64 stop] 3)).alloc (.cells #[.bool false] 4)) = w0 at HB B5 B6 ⊢
    refine (qlive_any _ (hE.below HB)).mono ?_
    rintro e wz ⟨rfl, hb⟩
    replace B6 := B6.below hb
    replace HB := below_two HB hb
    have c6 := B6.cell 0
    have f6 := B6.frozen 0
    simp only [List.getElem?_toArray, List.getElem?_cons_zero] at c6
    go_wp2_with fail
    have c7 := (B6.set_ 0 (.bool true)).cell 0
    simp only [List.getElem?_toArray, List.getElem?_cons_zero, List.setIfInBounds_toArray, List.set_cons_zero] at c7
    exact ⟨_, res_texts _ (w.heap.size + 1) _ rfl c7, rfl, HB.setCell (p := ⟨w.heap.size + 1, 0, none⟩) (by simp only; omega) _⟩
  have d1 : decide (12000 < u.length) = false := decide_eq_false h1
  go_wp2_with fail
  generalize ((w.alloc (.cells #[.int .i64 stop] 3)).alloc (.cells #[.bool false] 4)) = w0 at HB B5 B6 ⊢
  have HN := Lib.hid (wNew_any u w0 (hE.below HB) hs0)
  have HV := Lib.hid (fun W => vNew_any u W hs0)
  have hz0 := B6.lt
  cases hr : newP u with
  | error x =>
    rw [hr] at HN HV
    have hx := newP_code hr
    obtain ⟨k, i⟩ := x
    have hkk : ((k : Int) != k) = false := by simp
    clear hr
    refine HN.out.mono ?_
    rintro e w1 ⟨he, hb1⟩
    have he : e = .returned (.tuple #[.pointer none, .int .i64 k, .int .i64 (i : Int)]) := he
    subst he
    replace B6 := B6.below hb1
    replace HB := below_two HB hb1
    go_wp2_with fail
    refine (HV.out w1).mono ?_
    rintro e w2 ⟨he, hb2⟩
    have he : e = .returned (.tuple #[.pointer none, .int .i64 k, .int .i64 (i : Int)]) := he
    subst he
    replace B6 := B6.below hb2
    replace HB := below_two HB hb2
    go_wp2_with (go_at_call 15; refine (qnum_any _ _).mono ?_; rintro e w' ⟨rfl, rfl⟩)
    refine (qlive_any w2 (hE.below HB)).mono ?_
    rintro e wz ⟨rfl, hb⟩
    replace B6 := B6.below hb
    replace HB := below_two HB hb
    have c6 := B6.cell 0
    have f6 := B6.frozen 0
    simp only [List.getElem?_toArray, List.getElem?_cons_zero] at c6
    go_wp2_with fail
    have c7 := (B6.set_ 0 (.bool true)).cell 0
    simp only [List.getElem?_toArray, List.getElem?_cons_zero, List.setIfInBounds_toArray, List.set_cons_zero] at c7
    exact ⟨_, res_texts _ (w.heap.size + 1) _ rfl c7, rfl, HB.setCell (p := ⟨w.heap.size + 1, 0, none⟩) (by simp only; omega) _⟩
  | ok d =>
    rw [hr] at HN HV
    obtain ⟨hok, hap⟩ := newP_ok hr
    have HO := Lib.hid (And.intro hok hap)
    clear hr hok hap
    refine HN.out.mono ?_
    rintro e w1 ⟨⟨p, rfl, hd⟩, hb1⟩
    replace B5 := B5.below hb1
    replace B6 := B6.below hb1
    replace HB := below_two HB hb1
    go_wp2_with fail
    refine (HV.out w1).mono ?_
    rintro e w2 ⟨⟨pr, x, rfl, hv⟩, hb⟩
    replace hd := hd.below hb
    replace B5 := B5.below hb
    replace B6 := B6.below hb
    replace HB := below_two HB hb
    clear hb1 hb HN HV
    go_wp2_with (go_at_call 15; refine (qnum_any _ _).mono ?_; rintro e w' ⟨rfl, rfl⟩)
    refine (vOf_any w1.heap.size pr x d t w2 hv HO.out.1 HO.out.2 (by omega)).mono ?_
    rintro e w3 ⟨A3, n3, c3, rfl, ho3, hb⟩
    replace hd := hd.below hb
    replace B5 := B5.below hb
    replace B6 := B6.below hb
    replace HB := below_two HB hb
    have hl3 : (ofC d t).length = n3 := by have := ho3.len; simpa using this
    have hA3 := fun a ha => (ho3.lt a ha)
    clear hb hv
    have hbA : RowKit.Below w3.heap.size w3 (w3.alloc (.cells #[.slice A3 n3 c3] 46)) := (RowKit.Below.refl _ _).alloc (Nat.le_refl _) _
    have BW : Blk (w3.alloc (.cells #[.slice A3 n3 c3] 46)) w3.heap.size 46 #[.slice A3 n3 c3] := Blk.new _ _ _
    have o3 := ho3.alloc (.cells #[.slice A3 n3 c3] 46)
    have hn3 : n3 ≤ 8000 := by have := runesP_len t; unfold ofC at hl3; rw [List.length_map] at hl3; omega
    have Hl3 := Lib.hid hl3
    clear ho3 hl3
    go_wp2_with fail
    generalize hbw : w3.heap.size = bw at BW
    generalize (w3.alloc (.cells #[.slice A3 n3 c3] 46)) = w4 at hbA BW o3 ⊢
    replace hd := hd.below hbA
    replace B5 := B5.below hbA
    replace B6 := B6.below hbA
    replace HB := below_two HB hbA
    clear hbA
    refine (wOf_any p d t w4 hd HO.out.1 HO.out.2 (by omega)).mono ?_
    rintro e w5 ⟨A5, n5, c5, rfl, ho5, hb⟩
    obtain rfl : n5 = n3 := by have h1 := ho5.len; rw [List.length_map] at h1; have := Hl3.out; omega
    have c13 := (BW.below hb).cell 0
    simp only [List.getElem?_toArray, List.getElem?_cons_zero] at c13
    go_wp2_with fail
    refine (qints_any A5 A3 n5 c5 c3 (ofC d t) w5 (ho5.rd (by omega)) ((o3.below hb).rd (by omega)) Hl3.out (by omega)).mono ?_
    rintro e w6 ⟨rfl, k6, rfl⟩
    have hb46 := below_drewN hb k6
    have ho6 : Own (w5.drewN k6) w4.heap.size 3 1 A5 n5 c5 (((ofC d t).map fun x : Nat => (x : Int)).map encJ) := by
      have := ho5.drewN k6
      rw [List.map_map]; exact this
    have hz4 := hb46.size
    clear ho5 hb c13
    generalize w5.drewN k6 = w6 at hb46 ho6 hz4 ⊢
    go_wp2_with fail
    go_loopw [15] (fun v wr => ∃ (j : Nat) (L : List Int), j ≤ n5 ∧ v = .int .i64 j ∧ Own wr w4.heap.size 3 1 A5 n5 c5 (L.map encJ) ∧ RowKit.Below w4.heap.size w4 wr) (fun v _ => n5 - (intOf v).toNat)
    case atStart => exact ⟨0, _, by omega, rfl, ho6, hb46⟩
    case round =>
      clear ho6 hb46
      obtain ⟨j, L, hj, rfl, hol, hb⟩ := hrel
      by_cases hlt : j < n5
      · obtain ⟨g, rfl, hgB, _⟩ := hol.form (by omega)
        have hLl : L.length = n5 := by simpa using hol.len
        obtain ⟨u, hu⟩ : ∃ u, L[j]? = some u := ⟨_, List.getElem?_eq_getElem (show j < L.length by omega)⟩
        have hu1 := hol.cellJ hu
        have hf1 := hol.frozen j
        have hjL : j < L.length := by omega
        clear hLl hu
        go_wp2
        go_roundw
        case rel => exact ⟨j + 1, L.set j (-1), by omega, by go_num, hol.storedJ hjL (-1), hb.setCell (p := ⟨g, j, none⟩) hgB _⟩
        case measure => simp [intOf]; omega
      · obtain rfl : j = n5 := by omega
        replace hd := hd.below hb
        replace B5 := B5.below hb
        replace B6 := B6.below hb
        replace BW := BW.below hb
        replace o3 := o3.below hb
        replace HB := below_two HB hb
        clear hol hb hlt
        go_wp2_with fail
        refine (wEach_any (some ⟨p, 0, none⟩) t wr).mono ?_
        rintro e w7 ⟨bd, bs, rfl, hc1, hc2, hb⟩
        replace hd := hd.below hb
        replace B5 := B5.below hb
        replace B6 := B6.below hb
        replace BW := BW.below hb
        replace o3 := o3.below hb
        replace HB := below_two HB hb
        have hnil := seqii_nil (.func 56) #[] #[.pointer (some ⟨bd, 0, none⟩), .pointer (some ⟨bs, 0, none⟩)]
        have hbA : RowKit.Below w7.heap.size w7 (w7.alloc (.cells #[.func (.func 56) #[] #[.pointer (some ⟨bd, 0, none⟩), .pointer (some ⟨bs, 0, none⟩)]] 50)) := (RowKit.Below.refl _ _).alloc (Nat.le_refl _) _
        have BQ : Blk (w7.alloc (.cells #[.func (.func 56) #[] #[.pointer (some ⟨bd, 0, none⟩), .pointer (some ⟨bs, 0, none⟩)]] 50)) w7.heap.size 50 #[.func (.func 56) #[] #[.pointer (some ⟨bd, 0, none⟩), .pointer (some ⟨bs, 0, none⟩)]] := Blk.new _ _ _
        clear hb
        go_wp2_with fail
        generalize w7.heap.size = bq at BQ
        generalize (w7.alloc (.cells #[.func (.func 56) #[] #[.pointer (some ⟨bd, 0, none⟩), .pointer (some ⟨bs, 0, none⟩)]] 50)) = wa at hbA BQ ⊢
        refine (sRunes_any t wa (by omega)).mono ?_
        rintro e w8 ⟨Ax, nx, cx, rfl, hox, hb⟩
        have hbB := below_two hbA hb
        replace hd := hd.below hbB
        replace B5 := B5.below hbB
        replace B6 := B6.below hbB
        replace BW := BW.below hbB
        replace o3 := o3.below hbB
        replace BQ := BQ.below hb
        replace hc1 := cell_keep hc1 hbB
        replace hc2 := cell_keep hc2 hbB
        replace HB := below_two HB hbB
        have Hnx : Hid ((runesP t).length = nx) := Lib.hid (by simpa using hox.len)
        have hnx : nx ≤ 8000 := by have := Hnx.out; have := runesP_len t; omega
        obtain rfl : nx = j := by have h1 := Hnx.out; have h2 := Hl3.out; unfold ofC at h2; rw [List.length_map] at h2; omega
        have hbX : RowKit.Below w8.heap.size w8 (w8.alloc (.cells #[.slice Ax nx cx] 52)) := (RowKit.Below.refl _ _).alloc (Nat.le_refl _) _
        have BX : Blk (w8.alloc (.cells #[.slice Ax nx cx] 52)) w8.heap.size 52 #[.slice Ax nx cx] := Blk.new _ _ _
        replace hd := hd.below hbX
        replace B5 := B5.below hbX
        replace B6 := B6.below hbX
        replace BW := BW.below hbX
        replace BQ := BQ.below hbX
        replace o3 := o3.below hbX
        replace hox := hox.below hbX
        replace hc1 := cell_keep hc1 hbX
        replace hc2 := cell_keep hc2 hbX
        replace HB := below_two HB hbX
        clear hbA hb hbB hbX hnil
        have hbN : RowKit.Below (w8.alloc (.cells #[.slice Ax nx cx] 52)).heap.size (w8.alloc (.cells #[.slice Ax nx cx] 52)) ((w8.alloc (.cells #[.slice Ax nx cx] 52)).alloc (.cells #[.int .i64 0] 3)) := (RowKit.Below.refl _ _).alloc (Nat.le_refl _) _
        have BN : Blk ((w8.alloc (.cells #[.slice Ax nx cx] 52)).alloc (.cells #[.int .i64 0] 3)) (w8.heap.size + 1) 3 #[.int .i64 0] := by
          have := Blk.new (w8.alloc (.cells #[.slice Ax nx cx] 52)) 3 #[.int .i64 0]
          simpa using this
        have c16 := (BQ.below hbN).cell 0
        simp only [List.getElem?_toArray, List.getElem?_cons_zero] at c16
        have hsb : (w8.alloc (.cells #[.slice Ax nx cx] 52)).heap.size = w8.heap.size + 1 := by simp
        have hsc : ((w8.alloc (.cells #[.slice Ax nx cx] 52)).alloc (.cells #[.int .i64 0] 3)).heap.size = w8.heap.size + 1 + 1 := by simp
        go_wp2_with fail
        generalize ((w8.alloc (.cells #[.slice Ax nx cx] 52)).alloc (.cells #[.int .i64 0] 3)) = wc at hbN BN c16 hsc ⊢
        generalize (w8.alloc (.cells #[.slice Ax nx cx] 52)) = wb at hbN hd B5 B6 BW BQ BX o3 hox hc1 hc2 HB hsb
        generalize w8.heap.size = bx at BX BN hsb hsc ⊢
        have Hsb := Lib.hid hsb
        have Hsc := Lib.hid hsc
        have hnb : wb.heap.size ≤ bx + 1 := by omega
        clear c16 hsb hsc
        have hzBC := hbN.size
        have hzN := BN.lt
        clear hA3 hbw hz4 hj h1 hs
        refine (wpIn_wide (n := 8)).1 ?_
        refine rngC rfl (by decide) (gf := 56) (lb := #[.pointer (some ⟨bd, 0, none⟩), .pointer (some ⟨bs, 0, none⟩)]) rfl trivial (enters_of Tryz.func56 (by kernel_rfl) rfl)
          (wEach_seq 7 (by decide) wb wc t p bd bs (fun b => b = bx + 1) d hbN (by rintro b rfl; exact ⟨hnb, hzN⟩) hd HO.out.1 HO.out.2 hc1 hc2) (fun h k => h.trans k) (KpB.put hzBC) (RowKit.Below.refl _ _) (fun _ => rfl)
          (fun (pre : List (Nat × Nat × Nat)) W => Blk W (bx + 1) 3 #[.int .i64 (pre.length : Nat)] ∧ RowKit.Below wb.heap.size wb W)
          (fun cc pre _ => cc = .ret ∧ ¬ pre <+: runesP t)
          (OwnFrom.and (Go.Own.from (fun s A B row hs hg hr => hs.kept hg hr) _) (ownFrom_below (Nat.le_refl _) hzBC))
          (fun _ _ _ _ _ hs _ _ => hs)
          ⟨BN, hbN⟩
          (fun T (y : Nat × Nat × Nat) => ((((T.setIfInBounds 85 (.int .i64 (y.2.1 : Nat))).setIfInBounds 86 (.int .i64 (d.get (y.1 : Nat) : Nat))).setIfInBounds 19 (.int .i64 (y.2.1 : Nat))).setIfInBounds 20 (.int .i64 (d.get (y.1 : Nat) : Nat)))) ?assign ?body ?done ?stop
        case assign =>
          intro l2 y W K hK
          simp only [List.setIfInBounds_toArray, List.set_cons_succ, List.set_cons_zero] at hK
          simp only [encC]
          gi_wp2
          exact hK
        case stop =>
          rintro D cc pre W hD hp ⟨rfl, hnp⟩ hK
          exact absurd hp hnp
        case done =>
          rintro D ys W hD hys ⟨BNW, hbW⟩ hK
          have hyl : ys.length = nx := by rw [hys]; exact Hnx.out
          rw [hyl] at BNW
          have HBW := HB.trans (hbW.mono HB.size)
          have hdW := hd.below hbW
          have o3W := o3.below hbW
          have B6W := B6.below hbW
          have BWW := BW.below hbW
          have BXW := BX.below hbW
          have cN := BNW.cell 0
          have cX := BXW.cell 0
          have cW := BWW.cell 0
          simp only [List.getElem?_toArray, List.getElem?_cons_zero] at cN cX cW
          have HOf := Lib.hid (fun V h => wOf_any p d t V h HO.out.1 HO.out.2 (by omega))
          have HLv := Lib.hid (fun V h => qlive_any V h)
          have hz6 := B6.lt
          have tb : (3 : TypeId) ≠ 4 ∧ (52 : TypeId) ≠ 4 ∧ (46 : TypeId) ≠ 4 := by decide
          have HS := Lib.hid (fun V (h : W.grownBy V (some (w.heap.size + 1))) (h2 : ∃ bv, Blk V (w.heap.size + 1) 4 #[bv]) => (⟨(World.cell?_of_block (h.block _ BNW.lt (fun e => BNW.ne B6W tb.1 (by injection e)))).trans cN, (World.cell?_of_block (h.block _ BXW.lt (fun e => BXW.ne B6W tb.2.1 (by injection e)))).trans cX, (World.cell?_of_block (h.block _ BWW.lt (fun e => BWW.ne B6W tb.2.2 (by injection e)))).trans cW, h, h2⟩ :
            V.cell? ⟨bx + 1, 0, none⟩ = some (.int .i64 (nx : Nat)) ∧ V.cell? ⟨bx, 0, none⟩ = some (.slice Ax nx cx) ∧ V.cell? ⟨bw, 0, none⟩ = some (.slice A3 nx c3) ∧ W.grownBy V (some (w.heap.size + 1)) ∧ ∃ bv, Blk V (w.heap.size + 1) 4 #[bv]))
          have H0 : W.grownBy W (some (w.heap.size + 1)) := only_refl _ _
          have HD := Lib.hid (fun V (h : W.grownBy V (some (w.heap.size + 1))) => hdW.grownBool B6W h)
          have HW3 := Lib.hid (fun V (h : W.grownBy V (some (w.heap.size + 1))) => (o3W.grown h (fun a ha e => o3W.off B6W tb.1 a ha (by injection e))).rd (by decide))
          have HE := Lib.hid (fun V (h : W.grownBy V (some (w.heap.size + 1))) => hE.below (HBW.trans (below_only h HBW.size (Nat.le_succ _))))
          have HBl := Lib.hid (fun V (h : W.grownBy V (some (w.heap.size + 1))) => HBW.trans (below_only h HBW.size (Nat.le_succ _)))
          have HKd := Lib.hid (fun V (h : W.grownBy V (some (w.heap.size + 1))) => (h.block D (Array.getElem?_eq_some_iff.1 hK).1 (fun e => by injection e; omega)).trans hK)
          have HDz := Lib.hid (show w.heap.size + 1 < D by omega)
          have hL3 := Hl3.out
          clear hys hyl BN BX BW B5 BQ hc1 hc2 hox hd o3 B6 hzN hdW o3W BXW BWW BNW hK
          have hL4 := Lib.hid hL3
          clear hL3
          go_wp2_with fail
          go_region_held3 (fun V => V.cell? ⟨bx + 1, 0, none⟩ = some (.int .i64 (nx : Nat)) ∧ V.cell? ⟨bx, 0, none⟩ = some (.slice Ax nx cx) ∧ V.cell? ⟨bw, 0, none⟩ = some (.slice A3 nx c3) ∧ W.grownBy V (some (w.heap.size + 1)) ∧ ∃ bv, Blk V (w.heap.size + 1) 4 #[bv])
            (first | exact HS.out _ (only_setCell G3 (.inl rfl) _) ⟨_, Z3.set_ 0 _⟩ | exact HS.out _ G3 ⟨_, Z3⟩ | exact HS.out _ G2 ⟨_, Z2⟩ | exact HS.out _ G1 ⟨_, Z1⟩ | exact HS.out _ H0 ⟨_, B6W⟩ | exact HS.out _ (only_drewN H0 1) ⟨_, B6W⟩)
            (first
              | (go_at_call 27; go_split_ands; have gq := (by assumption : W.grownBy _ (some (w.heap.size + 1))); obtain ⟨bv, zq⟩ := (by assumption : ∃ bv, Blk _ (w.heap.size + 1) 4 #[bv]); refine (HOf.out _ (HD.out _ gq)).mono ?_; rintro e v1 ⟨A9, n9, c9, rfl, ho9, hb9⟩; have G1 := only_below gq hb9; have Z1 := zq.below hb9; have hn9 : n9 = nx := (by have h1 := ho9.len; rw [List.length_map] at h1; have := hL4.out; omega); subst hn9)
              | (go_at_call 28; go_split_ands; refine (qints_any A9 A3 _ c9 c3 (ofC d t) _ (ho9.rd (by decide)) (HW3.out _ (by assumption)) hL4.out (by omega)).mono ?_; rintro e v2 ⟨rfl, kq, rfl⟩; have G2 := only_drewN G1 kq; have Z2 := Z1.drewN kq)
              | (go_at_call 12; go_split_ands; have gq := (by assumption : W.grownBy _ (some (w.heap.size + 1))); obtain ⟨bv, zq⟩ := (by assumption : ∃ bv, Blk _ (w.heap.size + 1) 4 #[bv]); refine (HLv.out _ (HE.out _ gq)).mono ?_; rintro e v3 ⟨rfl, hb9⟩; have G3 := only_below gq hb9; have Z3 := zq.below hb9; have c6z := Z3.cell 0; have f6z := Z3.frozen 0; simp only [List.getElem?_toArray, List.getElem?_cons_zero] at c6z))
          go_wp2
          have G4 := only_setCell G3 (p := ⟨w.heap.size + 1, 0, none⟩) (.inl rfl) (.bool true)
          have hK3 := HKd.out _ G4
          have c7 := (Z3.set_ 0 (.bool true)).cell 0
          simp only [List.getElem?_toArray, List.getElem?_cons_zero, List.setIfInBounds_toArray, List.set_cons_zero] at c7
          have HB9 := HBl.out _ G4
          refine ⟨by simp, .inl ⟨_, _, rfl, run_takeDeferred hK3, ?_⟩⟩
          refine ⟨_, res_texts _ (w.heap.size + 1) _ rfl ((World.cell?_of_block (World.putObj_heap_other (by have := HDz.out; simp only; omega))).trans c7), rfl, HB9.trans (belowK_b (w := w) (Nat.le_refl _) _ D _ _ (by have := HDz.out; omega) hK3 rfl rfl)⟩
        case body =>
          rintro l2 pre ⟨R, q, q2⟩ W hl2 ⟨r0, hr0⟩ ⟨BNW, hbW⟩ hlen
          simp only [List.setIfInBounds_toArray, List.set_cons_succ, List.set_cons_zero]
          obtain ⟨k, hk⟩ : ∃ k, k = pre.length := ⟨_, rfl⟩
          rw [← hk] at BNW hlen
          obtain ⟨⟨R', q', z'⟩, hv⟩ : ∃ v, (runesP t)[k]? = some v := ⟨_, List.getElem?_eq_getElem hlen⟩
          have Hne : Hid (¬ (R, q, q2) = (R', q', z') → ¬ pre ++ [(R, q, q2)] <+: runesP t) := Lib.hid (fun h hp => h (by have := pre_next hp; rw [← hk, hv] at this; injection this with this; exact this.symm))
          have hkn : k < nx := by have := Hnx.out; omega
          have hdk : decide (nx ≤ k) = false := decide_eq_false (by omega)
          obtain ⟨gx, rfl, _, _⟩ := hox.form (by omega)
          obtain ⟨gw, rfl, _, _⟩ := o3.form (by omega)
          have hwv : (ofC d t)[k]? = some (d.get (R' : Nat)) := by unfold ofC; rw [List.getElem?_map, hv]; rfl
          have cN := BNW.cell 0
          have fN := BNW.frozen 0
          have cX := (BX.below hbW).cell 0
          have cW := (BW.below hbW).cell 0
          have c5 := (B5.below hbW).cell 0
          have c6 := (B6.below hbW).cell 0
          have f6 := (B6.below hbW).frozen 0
          have cQ := (BQ.below hbW).cell 0
          have x1 := (hox.below hbW).cellRn hv
          have y1 := (o3.below hbW).cellN hwv
          simp only [List.getElem?_toArray, List.getElem?_cons_zero] at cN cX cW c5 c6 cQ x1
          have Hk := Lib.hid hk
          have HLen := Lib.hid hlen
          have hszW := hbW.size
          clear hk hv hwv hlen
          by_cases hq : q = q'
          · subst hq
            by_cases hc : d.get (R : Nat) = d.get (R' : Nat)
            · rw [hc]
              generalize d.get (R' : Nat) = G at y1 ⊢
              have Hcast := Lib.hid (by have := Hk.out; simp only [List.length_append, List.length_singleton]; omega : (k : Int) + 1 = ((pre ++ [(R, q, q2)]).length : Nat))
              clear hc Hne
              obtain ⟨bq, hbq⟩ : ∃ q, ((k : Int) == stop) = q := ⟨_, rfl⟩
              cases bq with
              | false =>
                gi_wp2
                refine ⟨(KeepsOthers.setCell W ⟨bx + 1, 0, none⟩ (.int .i64 ((k : Int) + 1))).from _, ⟨(RowKit.Below.refl _ _).setCell (p := ⟨bx + 1, 0, none⟩) hnb _, kc_setCell (X := fun b => b = bx + 1) (KC.refl _ _ _) (p := ⟨bx + 1, 0, none⟩) (.inr rfl) _⟩, ?_, hbW.setCell (p := ⟨bx + 1, 0, none⟩) hnb _⟩
                exact cast (congrArg (fun z => Blk _ _ _ #[Value.int .i64 z]) Hcast.out) (BNW.set_ 0 (.int .i64 ((k : Int) + 1)))
              | true =>
                gi_wp2_with fail
                refine rngCN (l₀ := l2) (r₀ := r0) rfl hr0 (by decide) (gf := 56) (lb := #[.pointer (some ⟨bd, 0, none⟩), .pointer (some ⟨bs, 0, none⟩)]) rfl trivial (enters_of Tryz.func56 (by kernel_rfl) rfl)
                  ((wEach_seq 5 (by decide) wb W t p bd bs (fun _ => False) d hbW (fun b h => h.elim) hd HO.out.1 HO.out.2 hc1 hc2).inRound l2) (fun h k => h.trans k) (KpB.put (w := W) hszW) (RowKit.Below.refl _ _) (fun _ => rfl)
                  (fun (pre2 : List (Nat × Nat × Nat)) W2 => pre2 = [] ∧ RowKit.Below W.heap.size W W2)
                  (fun cc pre2 W2 => (cc = .exit 4 ∧ RowKit.Below W.heap.size W W2) ∨ (cc = .ret ∧ ¬ pre2 <+: runesP t))
                  (OwnFrom.and (fun _ _ _ _ hs _ _ => hs) (ownFrom_below (Nat.le_refl _) (Nat.le_refl _)))
                  (fun cc pre2 A B row hs hg hr => hs.imp (fun h => ⟨h.1, ownFrom_below (β := Unit) (Nat.le_refl W.heap.size) (Nat.le_refl _) () A B row h.2 hg hr⟩) id)
                  ⟨rfl, RowKit.Below.refl _ _⟩
                  (fun T (y : Nat × Nat × Nat) => ((((T.setIfInBounds 112 (.int .i64 (y.2.1 : Nat))).setIfInBounds 113 (.int .i64 (d.get (y.1 : Nat) : Nat))).setIfInBounds 21 (.int .i64 (y.2.1 : Nat))).setIfInBounds 22 (.int .i64 (d.get (y.1 : Nat) : Nat)))) ?assign2 ?body2 ?done2 ?stop2
                case assign2 =>
                  intro l3 y W2 K hK
                  simp only [List.setIfInBounds_toArray, List.set_cons_succ, List.set_cons_zero] at hK
                  simp only [encC]
                  gi_wp2
                  exact hK
                case done2 =>
                  rintro ys W2 hys ⟨h0, hb2⟩
                  have := HLen.out
                  rw [← hys, h0] at this
                  simp at this
                case stop2 =>
                  rintro cc pre2 W2 hp (⟨rfl, hb2⟩ | ⟨rfl, hnp⟩)
                  · have BN2 := BNW.below hb2
                    have cN2 := BN2.cell 0
                    have fN2 := BN2.frozen 0
                    simp only [List.getElem?_toArray, List.getElem?_cons_zero] at cN2
                    have hk2 := keepsFrom_below (B := wc.heap.size) hb2
                    clear cN fN cX cW c5 c6 f6 cQ x1 y1
                    gi_wp2
                    refine ⟨hk2.trans ((KeepsOthers.setCell W2 ⟨bx + 1, 0, none⟩ (.int .i64 ((k : Int) + 1))).from _), ⟨(hb2.mono hszW).setCell (p := ⟨bx + 1, 0, none⟩) hnb _, kc_setCell (X := fun b => b = bx + 1) (kc_below hb2) (p := ⟨bx + 1, 0, none⟩) (.inr rfl) _⟩, ?_, (hbW.trans (hb2.mono hszW)).setCell (p := ⟨bx + 1, 0, none⟩) hnb _⟩
                    exact cast (congrArg (fun z => Blk _ _ _ #[Value.int .i64 z]) Hcast.out) (BN2.set_ 0 (.int .i64 ((k : Int) + 1)))
                  · exact absurd hp hnp
                case body2 =>
                  rintro l3 pre2 ⟨R2, q2', z2⟩ W2 hl3 _ ⟨rfl, hb2⟩ hlen2
                  simp only [List.setIfInBounds_toArray, List.set_cons_succ, List.set_cons_zero]
                  obtain ⟨⟨R0, q0, z0⟩, hv0⟩ : ∃ v, (runesP t)[0]? = some v := ⟨_, List.getElem?_eq_getElem hlen2⟩
                  obtain rfl : q0 = 0 := first_place hv0
                  have Hne2 : Hid (¬ (R2, q2', z2) = (R0, 0, z0) → ¬ [] ++ [(R2, q2', z2)] <+: runesP t) := Lib.hid (fun h hp => h (by have := pre_next hp; rw [List.length_nil, hv0] at this; injection this with this; exact this.symm))
                  have hw0 : (ofC d t)[0]? = some (d.get (R0 : Nat)) := by unfold ofC; rw [List.getElem?_map, hv0]; rfl
                  have cW2 := ((BW.below hbW).below hb2).cell 0
                  have c62 := ((B6.below hbW).below hb2).cell 0
                  have f62 := ((B6.below hbW).below hb2).frozen 0
                  have y2 := ((o3.below hbW).below hb2).cellN hw0
                  simp only [List.getElem?_toArray, List.getElem?_cons_zero] at cW2 c62
                  have hnx0 : 0 < nx := by omega
                  clear hv0 hw0 hlen2 cN fN cX cW c5 c6 f6 cQ x1 y1
                  by_cases hq2 : q2' = 0
                  · subst hq2
                    by_cases hc2 : d.get (R2 : Nat) = d.get (R0 : Nat)
                    · rw [hc2]
                      generalize d.get (R0 : Nat) = G0 at y2 ⊢
                      gi_wp2
                      exact ⟨(KeepsOthers.refl W2).from _, .inl ⟨rfl, hb2⟩⟩
                    · have hnp := Lib.hid (Hne2.out (fun e => hc2 (by injection e with e _; rw [e])))
                      have hne : (((d.get (R2 : Nat) : Nat) : Int) != ((d.get (R0 : Nat) : Nat) : Int)) = true := by rw [bne_iff_ne]; omega
                      clear hc2
                      generalize d.get (R0 : Nat) = G0 at y2 hne ⊢
                      generalize d.get (R2 : Nat) = G2 at hne ⊢
                      gi_wp2
                      exact ⟨(KeepsOthers.setCell _ _ _).from _, .inr ⟨rfl, hnp.out⟩⟩
                  · have hnp := Lib.hid (Hne2.out (fun e => hq2 (by injection e with _ e; injection e with e _)))
                    have hne : ((q2' : Int) != 0) = true := by rw [bne_iff_ne]; omega
                    generalize d.get (R2 : Nat) = G2
                    gi_wp2
                    exact ⟨(KeepsOthers.setCell _ _ _).from _, .inr ⟨rfl, hnp.out⟩⟩
            · have hnp := Lib.hid (Hne.out (fun e => hc (by injection e with e _; rw [e])))
              have hne : (((d.get (R : Nat) : Nat) : Int) != ((d.get (R' : Nat) : Nat) : Int)) = true := by rw [bne_iff_ne]; omega
              clear hc
              generalize d.get (R' : Nat) = G at y1 hne ⊢
              generalize d.get (R : Nat) = G2 at hne ⊢
              gi_wp2
              exact ⟨(KeepsOthers.setCell _ _ _).from _, rfl, hnp.out⟩
          · have hnp := Lib.hid (Hne.out (fun e => hq (by injection e with _ e; injection e with e _)))
            have hne : ((q : Int) != (q' : Int)) = true := by rw [bne_iff_ne]; omega
            clear hq
            generalize d.get (R' : Nat) = G at y1
            generalize d.get (R : Nat) = G2
            gi_wp2
            exact ⟨(KeepsOthers.setCell _ _ _).from _, rfl, hnp.out⟩
end Go.Proofs.YtejccafolfeabaaGreatDoor

