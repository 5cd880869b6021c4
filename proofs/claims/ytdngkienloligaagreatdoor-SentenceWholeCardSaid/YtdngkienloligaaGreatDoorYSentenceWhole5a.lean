/-
  Several texts in one, in their build order: PrO, PrQ, Nb0, Gn, Gq, Nc, Nd, Gr, Ng.
-/
import Derived.Deep.RegionHeld3
import Derived.BigRegion
import Derived.Test.YtdngkienloligaaGreatDoorYSentenceWholePrN
import Derived.Test.YtdngkienloligaaGreatDoorYSentenceWhole1a
import Derived.Test.YtdngkienloligaaGreatDoorYSentenceWhole0a
import Derived.Test.YtdngkienloligaaGreatDoorZ0a
import Derived.Test.YtdngkienloligaaGreatDoorYSentenceWholeNa
import Derived.Test.YtdngkienloligaaGreatDoorYSentenceWhole2a
/- -/
namespace Go.Proofs.YtdngkienloligaaGreatDoor
open Go.RowKit
end Go.Proofs.YtdngkienloligaaGreatDoor

/- -/
namespace Go.Proofs.YtdngkienloligaaGreatDoor
open Go.RowKit
theorem gS_lt (r : Int) : gS r < 14 := get_lt sentsOk.1 r
def boundsS (s : ByteArray) : List Nat := boundsX (fun c i => sCuts (toI c) i) gS s
end Go.Proofs.YtdngkienloligaaGreatDoor

/- -/
namespace Go.Proofs.YtdngkienloligaaGreatDoor
open Go.RowKit
def NbAt (s : ByteArray) (f q i : Nat) (O : List Nat) : Prop :=
  ∃ R, R ++ runesGo s f q = runesP s ∧ R.length = i ∧ s.size ≤ q + f ∧ q ≤ s.size ∧ (i = 0 → q = 0 ∧ O = [0]) ∧ (0 < i → O = pickG R ((List.range i).map fun j => decide (j = 0) || sCuts (toI (clsG gS (runesP s))) j))
theorem nbAt_first (s : ByteArray) : NbAt s s.size 0 0 [0] := ⟨[], rfl, rfl, by omega, by omega, fun _ => ⟨rfl, rfl⟩, fun h => absurd h (by omega)⟩
theorem nbAt_next {s : ByteArray} {f q i W R : Nat} {O : List Nat} (h : NbAt s f q i O) (hp : q < s.size) (hd : Utf8.decode s q = (R, W)) (hw : 1 ≤ W ∧ q + W ≤ s.size) :
    ∃ f', NbAt s f' (q + W) (i + 1) (if i = 0 then O else O ++ (if sCuts (toI (clsG gS (runesP s))) i then [q] else [])) := by
  obtain ⟨L, h1, h2, h3, h4, h5, h6⟩ := h
  obtain ⟨f', rfl, hg⟩ := runesGo_step (s := s) (f := f) hp h3
  rw [hd] at hg
  refine ⟨f', L ++ [(R, q, q + W)], by rw [← h1, hg]; simp, by simp [h2], by omega, hw.2, fun h => by omega, fun _ => ?_⟩
  rw [List.range_succ, List.map_append, List.map_cons, List.map_nil, pickG_snoc _ _ _ _ (by simp [h2])]
  rcases Nat.eq_zero_or_pos i with h0 | h0
  · subst h0
    have hL : L = [] := List.eq_nil_of_length_eq_zero h2
    subst hL
    obtain ⟨hq, hO⟩ := h5 rfl
    rw [if_pos rfl, hO, hq]
    rfl
  · rw [if_neg (by omega), ← h6 h0, decide_eq_false (by omega), Bool.false_or]
theorem nbAt_end {s : ByteArray} {f q i : Nat} {O : List Nat} (h : NbAt s f q i O) (hp : ¬ q < s.size) (hs : 0 < s.size) : O ++ [s.size] = boundsS s := by
  obtain ⟨L, h1, h2, h3, h4, h5, h6⟩ := h
  rw [runesGo_end (by omega), List.append_nil] at h1
  subst h1
  unfold boundsS boundsX
  rw [if_neg (by omega)]
  rcases Nat.eq_zero_or_pos i with h0 | h0
  · have := (h5 h0).1; omega
  · rw [h6 h0, h2]
theorem nbAt_lt {s : ByteArray} {f q i : Nat} {O : List Nat} (h : NbAt s f q i O) (hp : q < s.size) : i < (runesP s).length := by
  obtain ⟨L, h1, h2, h3, h4, h5, h6⟩ := h
  obtain ⟨f', rfl, hg⟩ := runesGo_step (s := s) (f := f) hp h3
  rw [← h1, hg, List.length_append, h2]
  simp
set_option maxRecDepth 100000 in
set_option maxHeartbeats 8000000 in
theorem nBounds_any (s : ByteArray) (w : World) (hE : Env w) (hs : s.size ≤ 1000000) :
    Calls Tryz.prog 76 #[.string s] w fun e w' => ∃ A n c, e = .returned (.slice A n c) ∧ Own w' w.heap.size 3 1 A n c ((boundsS s).map encN) ∧ Below w.heap.size w w' := by
  obtain ⟨i0, hi0, hz0, hz1, hz2⟩ := info_parts infoInt
  by_cases h0 : 0 < s.size
  · have hem : s.toList.isEmpty = false := by
      rw [ByteArray.toList_eq]
      cases hq : s.data.toList with
      | nil => rw [← size_data, hq] at h0; simp at h0
      | cons a b => rfl
    have HD := Lib.hid (ndb_any w hE)
    obtain ⟨L, HL⟩ : ∃ L, Hid (clsG gS (runesP s) = L) := ⟨_, Lib.hid rfl⟩
    have hLz : L.length ≤ s.size := by rw [← HL.out]; unfold clsG; rw [List.length_map]; exact runesP_len s
    have HLr : Hid (L.length = (runesP s).length) := Lib.hid (by rw [← HL.out]; unfold clsG; rw [List.length_map])
    have HL14 : Hid (∀ x ∈ L, x < 14) := Lib.hid (fun x hx => by
      rw [← HL.out] at hx
      obtain ⟨u, _, rfl⟩ := List.mem_map.1 hx
      exact gS_lt _)
    clear hE
    go_enter Tryz.func76, Tryz.ntmps76
    go_wp2_with fail
    refine HD.out.mono ?_
    rintro e w1 ⟨p, rfl, hd, hb1⟩
    have HO := Lib.hid (wOf_any p sentsD s w1 hd sentsOk.1 sentsOk.2.1 hs)
    rw [show ofC sentsD s = L from HL.out] at HO
    go_wp2_with fail
    refine HO.out.mono ?_
    rintro e w2 ⟨B, nb, cb, rfl, hob, hb2⟩
    have hnb : L.length = nb := by have := hob.len; simpa using this
    have Hnb := Lib.hid hnb
    have hnz : nb ≤ 1000000 := by omega
    have rd := hob.rd (by decide)
    have hb3 := below_two hb1 hb2
    have hsz3 := hb3.size
    have HCt := Lib.hid (fun i W (hi0 : 0 < i) (hi : i < nb) (hb : Below w2.heap.size w2 W) => ncuts_any B nb cb L i W (rd.below hb) Hnb.out hi0 hi (by omega) HL14.out)
    clear HD HO hd hob hb1 hb2 hnb hLz rd
    have ho0 : Own ((w2.alloc (.cells #[.int .i64 0] 3)).iter s 0) w2.heap.size 3 1 (some ⟨w2.heap.size, 0, none⟩) 1 1 ([0].map encN) := (own_one (u := .int .i64 0) (t := 3) (w := w2) (Nat.le_refl _)).alloc _
    have hbz : Below w2.heap.size w2 ((w2.alloc (.cells #[.int .i64 0] 3)).iter s 0) := below_iter ((Below.refl _ _).alloc (Nat.le_refl _) _) (by simp) _ _
    have hit0 : ((w2.alloc (.cells #[.int .i64 0] 3)).iter s 0).heap[w2.heap.size + 1]? = some (.stringIter s 0) := by have := iter_new (w2.alloc (.cells #[.int .i64 0] 3)) s 0; simpa using this
    have HG0 := Lib.hid (nbAt_first s)
    go_wp2_with fail
    go_loopw [4, 5, 6] (fun v4 v5 v6 wr => ∃ (q f i : Nat) (A : Option Addr) (n c : Nat) (O : List Nat), v4 = .slice A n c ∧ v5 = .int .i64 i ∧
      wr.heap[w2.heap.size + 1]? = some (.stringIter s q) ∧ Own wr w2.heap.size 3 1 A n c (O.map encN) ∧ (∀ a, A = some a → a.block ≠ w2.heap.size + 1) ∧ n ≤ i + 1 ∧ i ≤ q ∧ q ≤ s.size ∧ Hid (NbAt s f q i O) ∧ Below w2.heap.size w2 wr) (fun _ _ _ wr => s.size - wr.iterPos (w2.heap.size + 1))
    case atStart => exact ⟨0, s.size, 0, _, _, _, [0], rfl, rfl, hit0, ho0, fun a ha => by injection ha with ha; subst ha; simp, by omega, by omega, by omega, HG0, hbz⟩
    case round =>
      clear hit0 ho0 hbz HG0
      obtain ⟨q, f, i, A, n, c, O, rfl, rfl, hit, ho, hA, hni, hiq, hqs, HG, hb⟩ := hrel
      have Hpos := Lib.hid (iterPos_of hit)
      by_cases hp : q < s.size
      · obtain ⟨⟨R, W⟩, HDc⟩ : ∃ d, Utf8.decode s q = d := ⟨_, rfl⟩
        have hd := dec_bd s q hp
        have hnx : ∀ ty, (Instr.next (.pointer (some ⟨w2.heap.size + 1, 0, none⟩)) true ty).run Tryz.prog wr = _ := fun ty => Lib.run_next_any_at wr (w2.heap.size + 1) s q ty hit hp
        have hit2 := Lib.iterAt_heap wr (w2.heap.size + 1) s q (q + (Utf8.decode s q).2) hit
        have hb2 := Lib.below_iterAt hb (k := w2.heap.size + 1) (by omega) s (q + (Utf8.decode s q).2)
        have ho2 := ho.keep (w' := wr.iterAt (w2.heap.size + 1) s (q + (Utf8.decode s q).2)) fun a ha => Lib.iterAt_other wr (w2.heap.size + 1) a.block s _ (hA a ha)
        have hsz2 : w2.heap.size + 1 < (wr.iterAt (w2.heap.size + 1) s (q + (Utf8.decode s q).2)).heap.size := (Array.getElem?_eq_some_iff.1 hit2).1
        rw [HDc] at hd hnx hit2 hb2 ho2 hsz2
        simp only at hd hnx hit2 hb2 ho2 hsz2
        have hin : i < nb := by have := nbAt_lt HG.out hp; have := Hnb.out; have := HLr.out; omega
        obtain ⟨g, hN⟩ := nbAt_next HG.out hp HDc (by omega)
        rw [HL.out] at hN
        have HN := Lib.hid hN
        clear hN HDc HG ho hit hb
        generalize wr.iterAt (w2.heap.size + 1) s (q + W) = w4 at hnx hit2 hb2 ho2 hsz2
        by_cases hiz : i = 0
        · subst hiz
          have HN2 : Hid (NbAt s g (q + W) 1 O) := HN
          go_wp2
          go_roundw
          case rel => exact ⟨q + W, g, 1, A, n, c, O, rfl, rfl, hit2, ho2, hA, by omega, by omega, by omega, HN2, hb2⟩
          case measure => rw [iterPos_of hit2, Hpos.out]; omega
        · have hi1 : 0 < i := by omega
          have hi1' : (0 : Int) < (i : Int) := by omega
          have hi1'' : (i : Int) > 0 := by omega
          have HC := Lib.hid (HCt.out i w4 hi1 hin hb2)
          have hN := HN.out
          rw [if_neg hiz] at hN
          clear HN
          cases hc : sCuts (toI L) i with
          | false =>
            rw [hc] at HC hN
            have HN2 : Hid (NbAt s g (q + W) (i + 1) O) := Lib.hid (by simpa using hN)
            clear hN hc
            go_wp2_with fail
            refine HC.out.mono ?_
            rintro e w5 ⟨rfl, hb5⟩
            have hit5 : w5.heap[w2.heap.size + 1]? = some (.stringIter s (q + W)) := (hb5.block _ hsz2).trans hit2
            have ho5 := ho2.below hb5
            have hb25 := below_step hb2 hb5 (by omega)
            go_wp2
            go_roundw
            case rel => exact ⟨q + W, g, i + 1, A, n, c, O, rfl, by go_num, hit5, ho5, hA, by omega, by omega, by omega, HN2, hb25⟩
            case measure => rw [iterPos_of hit5, Hpos.out]; omega
          | true =>
            rw [hc] at HC hN
            have HN2 : Hid (NbAt s g (q + W) (i + 1) (O ++ [q])) := Lib.hid (by simpa using hN)
            clear hN hc
            go_wp2_with fail
            refine HC.out.mono ?_
            rintro e w5 ⟨rfl, hb5⟩
            have hit5 : w5.heap[w2.heap.size + 1]? = some (.stringIter s (q + W)) := (hb5.block _ hsz2).trans hit2
            have ho5 := ho2.below hb5
            have hb25 := below_step hb2 hb5 (by omega)
            have hsz5 : w2.heap.size + 1 < w5.heap.size := Nat.lt_of_lt_of_le hsz2 hb5.size
            go_wp2_with (at_builtin; go_must (refine wpList_app rfl (.tmp 25) (.tmp 27) _ rfl w2.heap.size 3 i0 _ 1 8 Tryz.underlying40 hi0 hz0 hz1 hz2 rfl (by omega) A n c (O.map encN) rfl (ho5.alloc _) _ 1 1 [encN q] rfl rfl (Rd.newAt (by simp) rfl) (encN_ok [q]) (by unfold maxLen; omega) (by omega) (by simp; omega) ?_); intro A3 c3 w6 ho6 hg6 hA6)
            have hb6 := below_app (hb25.alloc (by omega) _) hg6 (by simp; omega) (fun a ha => (ho5.lt a ha).1)
            have hit6 : w6.heap[w2.heap.size + 1]? = some (.stringIter s (q + W)) := (hg6.block (w2.heap.size + 1) (by simp; omega) (fun e => by cases A with | none => cases e | some a => simp at e; exact hA a rfl e.symm)).trans ((Below.heap_alloc _ _ _ hsz5).trans hit5)
            have hA7 : ∀ a, A3 = some a → a.block ≠ w2.heap.size + 1 := fun a ha => by
              rcases hA6 with e | e
              · exact hA a (by rw [← e]; exact ha)
              · rw [e] at ha; injection ha with ha; subst ha; simp; omega
            go_roundw
            case rel => exact ⟨q + W, g, i + 1, A3, n + 1, c3, O ++ [q], rfl, by go_num, hit6, by rw [List.map_append]; exact ho6, hA7, by omega, by omega, by omega, HN2, hb6⟩
            case measure => rw [iterPos_of hit6, Hpos.out]; omega
      · have hnx : ∀ ty, (Instr.next (.pointer (some ⟨w2.heap.size + 1, 0, none⟩)) true ty).run Tryz.prog wr = _ := fun ty => Lib.run_next_end_at wr (w2.heap.size + 1) s q ty hit hp
        have HE := Lib.hid (nbAt_end HG.out hp h0)
        have hszr := hb.size
        go_wp2_with (at_builtin; go_must (refine wpList_app rfl (.tmp 31) (.tmp 34) _ rfl w2.heap.size 3 i0 _ 1 8 Tryz.underlying40 hi0 hz0 hz1 hz2 rfl (by omega) A n c (O.map encN) rfl (ho.alloc _) _ 1 1 [encN s.size] rfl rfl (Rd.newAt (by simp) rfl) (encN_ok [s.size]) (by unfold maxLen; omega) (by omega) (by simp; omega) ?_); intro A3 c3 w5 ho5 hg5 hA5)
        have hb5 := below_app (hb.alloc (by omega) _) hg5 (by simp; omega) (fun a ha => (ho.lt a ha).1)
        go_ret
        exact ⟨A3, n + 1, c3, rfl, by rw [← HE.out, List.map_append]; exact ho5.more hsz3, below_step hb3 hb5 hsz3⟩
  · have hem : s.toList.isEmpty = true := by
      rw [ByteArray.toList_eq]
      have : s.data.toList.length = 0 := by rw [size_data]; omega
      rw [List.length_eq_zero_iff.1 this]; rfl
    have HV : Hid (boundsS s = []) := Lib.hid (by unfold boundsS boundsX; rw [if_pos (by omega)])
    go_enter Tryz.func76, Tryz.ntmps76
    go_wp2
    go_ret
    exact ⟨none, 0, 0, rfl, by rw [HV.out]; exact Own.nil_ _ _ _ _, Below.refl _ _⟩
theorem boundsS_len (s : ByteArray) : (boundsS s).length ≤ s.size + 1 := by
  unfold boundsS boundsX
  split
  · simp
  · rw [List.length_append, pick_filter (runesP s).length (runesP s) _ rfl (by simp), List.length_map]
    have h1 := List.length_filter_le (fun i => ((List.range (runesP s).length).map fun i => decide (i = 0) || sCuts (toI (clsG gS (runesP s))) i).getD i false) (List.range (runesP s).length)
    rw [List.length_range] at h1
    have h2 := runesP_len s
    simp only [List.length_singleton]
    omega
end Go.Proofs.YtdngkienloligaaGreatDoor

/- -/
namespace Go.Proofs.YtdngkienloligaaGreatDoor
open Go.RowKit
end Go.Proofs.YtdngkienloligaaGreatDoor

/- -/
namespace Go.Proofs.YtdngkienloligaaGreatDoor
open Go.RowKit
end Go.Proofs.YtdngkienloligaaGreatDoor

/- -/
namespace Go.Proofs.YtdngkienloligaaGreatDoor
open Go.RowKit Go.Shelf
attribute [local go_sem] Oper.semAt_some
theorem boundsX_mem {s : ByteArray} {a : Nat} {t : List Bool} (h : a ∈ pickG (runesP s) t) : a < s.size := by
  obtain ⟨k, y, h1, _, rfl⟩ := pickG_mem.1 h
  have := runesP_bd y (List.mem_of_getElem? h1); omega
theorem boundsS_le (s : ByteArray) : ∀ a ∈ boundsS s, a ≤ s.size := fun a ha => by
  unfold boundsS boundsX at ha
  split at ha
  · cases ha
  · rcases List.mem_append.1 ha with h | h
    · exact Nat.le_of_lt (boundsX_mem h)
    · rw [List.mem_singleton] at h; omega
theorem boundsS_rise (s : ByteArray) : (boundsS s).Pairwise (· < ·) := by
  unfold boundsS boundsX
  split
  · exact .nil
  · rw [List.pairwise_append]
    exact ⟨pick_rise (runes_rise s), by simp, fun a ha b hb => by simp at hb; subst hb; exact boundsX_mem ha⟩
def countS (s : ByteArray) : Nat := (boundsS s).length - 1
def isS (s : ByteArray) (x : Int) : Bool := ((boundsS s).map fun (a : Nat) => (a : Int)).contains x
set_option maxRecDepth 100000 in
set_option maxHeartbeats 2000000 in
theorem nCount_any (s : ByteArray) (w : World) (hE : Env w) (hs : s.size ≤ 1000000) :
    Calls Tryz.prog 77 #[.string s] w fun e w' => e = .returned (.int .i64 (countS s : Nat)) ∧ Below w.heap.size w w' := by
  have HB := Lib.hid (nBounds_any s w hE hs)
  have HL := Lib.hid (boundsS_len s)
  clear hE
  go_enter Tryz.func77, Tryz.ntmps77
  go_wp2_with fail
  refine HB.out.mono ?_
  rintro e w1 ⟨A, n, c, rfl, ho, hb1⟩
  have hn : (boundsS s).length = n := by have := ho.len; simpa using this
  have HV : Hid (countS s = n - 1) := Lib.hid (by unfold countS; rw [hn])
  have hz : n ≤ 1000001 := by have := HL.out; omega
  clear hn ho
  cases n with
  | zero =>
    go_wp2
    go_ret
    exact ⟨by rw [HV.out]; rfl, hb1⟩
  | succ k =>
    have HV2 : Hid (countS s = k) := Lib.hid (by rw [HV.out]; rfl)
    have e1 : ((k + 1 : Nat) : Int) - 1 = (k : Int) := by omega
    have e2 : IntKind.i64.wrap (((k + 1 : Nat) : Int) - 1) = (k : Int) := by rw [e1]; exact IntWalk.i64_in _ (by omega)
    have e3 : max (k : Int) 0 = (k : Int) := by omega
    go_wp2
    go_ret
    exact ⟨by rw [HV2.out]; rfl, hb1⟩
set_option maxRecDepth 100000 in
set_option maxHeartbeats 2000000 in
theorem nIs_any (s : ByteArray) (x : Int) (w : World) (hE : Env w) (hs : s.size ≤ 1000000) :
    Calls Tryz.prog 18 #[.string s, .int .i64 x] w fun e w' => e = .returned (.bool (isS s x)) ∧ Below w.heap.size w w' := by
  have HB := Lib.hid (nBounds_any s w hE hs)
  have HL := Lib.hid (boundsS_len s)
  clear hE
  go_enter Tryz.func18, Tryz.ntmps18
  go_wp2_with fail
  refine HB.out.mono ?_
  rintro e w1 ⟨A, n, c, rfl, ho, hb1⟩
  have hn : (boundsS s).length = n := by have := ho.len; simpa using this
  have HS := Lib.hid (search_own x ho (boundsS_rise s) (by have := HL.out; omega))
  clear hn ho
  obtain ⟨v, HV⟩ : ∃ v, Hid (isS s x = v) := ⟨_, Lib.hid rfl⟩
  have HV2 := HV.out
  unfold isS at HV2
  rw [HV2] at HS
  clear HV2
  go_wp2_with fail
  refine HS.out.mono ?_
  rintro e w2 ⟨⟨k, rfl⟩, hb2⟩
  go_wp2
  go_ret
  exact ⟨by rw [HV.out]; rfl, below_two hb1 hb2⟩
set_option maxRecDepth 100000 in
theorem nEach_any (s : ByteArray) (w : World) : Calls Tryz.prog 20 #[.string s] w fun e w' => ∃ bs, e = .returned (.func (.func 82) #[] #[.pointer (some ⟨bs, 0, none⟩)]) ∧ w'.cell? ⟨bs, 0, none⟩ = some (.string s) ∧ Below w.heap.size w w' := by
  have hmf : ∀ (fn : Fn) (first cap : Array Value) (w : World), (Instr.makeFunc fn first cap).run Tryz.prog w = .ok (.func fn first cap) w := fun _ _ _ _ => rfl
  go_enter Tryz.func20, Tryz.ntmps20
  go_wp2
  go_ret
  exact ⟨_, rfl, (Blk.new w 9 #[.string s]).cell 0, (Below.refl _ _).alloc (Nat.le_refl _) _⟩
set_option maxRecDepth 100000 in
set_option maxHeartbeats 4000000 in
theorem nEach_seq (n : Nat) (hn : 1 ≤ n) (w : World) (s : ByteArray) (bs : Nat) (X : Nat → Prop) (hX : ∀ b, X b → b < w.heap.size) (hE : Env w) (hs : s.size ≤ 1000000) (h : w.cell? ⟨bs, 0, none⟩ = some (.string s)) :
    SeqStopsK Fence.wide n Tryz.prog 82 #[.pointer (some ⟨bs, 0, none⟩)] (encCl s) (KT 3 X) (fun ys => ys = piecesF (boundsS s)) (fun pre => pre <+: piecesF (boundsS s)) (piecesF (boundsS s)).length w := by
  intro l J Jx W hW hJ _ hY h0
  have hc1 : W.cell? ⟨bs, 0, none⟩ = some (.string s) := cell_keep h hW
  have hWz := hW.size
  have HB := Lib.hid (nBounds_any s W (hE.below hW) hs)
  have HL := Lib.hid (boundsS_len s)
  have HP := Lib.hid (piecesF_le (boundsS_rise s) (boundsS_le s))
  clear hE h
  refine callsIn_of_wp Tryz.func82 rfl trivial ?_ rfl
  simp only [Tryz.ntmps82, List.size_toArray, List.length_cons, List.length_nil, Nat.reduceAdd, Nat.reduceSub, Array.replicate_succ, Array.replicate_zero, List.push_toArray, List.append_toArray, List.nil_append, List.cons_append]
  refine wpIn_wide.2 ?_
  go_wp2_with fail
  refine HB.out.mono ?_
  rintro e w1 ⟨A, m, c, rfl, ho, hb1⟩
  have hJ1 : J [] w1 := abides_below hJ h0 hb1
  have hm : (boundsS s).length = m := by have := ho.len; simpa using this
  have hz : m ≤ 1000001 := by have := HL.out; omega
  have Hm := Lib.hid hm
  clear hm
  go_wp2_with fail
  refine (wpIn_wide (n := n)).1 ?_
  gi_loopw [4] (fun v wr => ∃ k j : Nat, v = .int .i64 (j : Int) ∧ Hid (j = k + 1) ∧ (k = 0 ∨ k + 1 ≤ m) ∧ J ((piecesF (boundsS s)).take k) wr ∧ Own wr W.heap.size 3 1 A m c ((boundsS s).map encN)) (fun v _ => m + 1 - (intOf v).toNat)
  case atStart => exact ⟨0, 1, rfl, Lib.hid rfl, .inl rfl, hJ1, ho⟩
  case round =>
    obtain ⟨k, j, rfl, HJ, hk, hJr, hor⟩ := hrel
    by_cases hlt : j < m
    · have hjm : k + 1 < m := by have := HJ.out; omega
      have rd := hor.rd (by decide)
      obtain ⟨x, Hx⟩ : ∃ x, Hid ((boundsS s)[k]? = some x) := ⟨_, Lib.hid (List.getElem?_eq_getElem (by have := Hm.out; omega))⟩
      obtain ⟨y, Hy⟩ : ∃ y, Hid ((boundsS s)[k + 1]? = some y) := ⟨_, Lib.hid (List.getElem?_eq_getElem (by have := Hm.out; omega))⟩
      obtain ⟨b, off, rfl, cx⟩ := Rd.atQ rd Hx.out
      obtain ⟨b', off', e2, cy⟩ := Rd.atQ rd Hy.out
      injection e2 with e2
      injection e2 with e2 e3
      subst e2 e3
      have hat := piecesF_at _ k x y Hx.out Hy.out
      have hcl : clP s (x, y) = (x, y) := clP_in (HP.out _ (List.mem_of_getElem? hat))
      have hp : (piecesF (boundsS s)).take k ++ [(x, y)] = (piecesF (boundsS s)).take (k + 1) := by
        rw [List.take_add_one, hat]; rfl
      have hlen : ((piecesF (boundsS s)).take k).length < (piecesF (boundsS s)).length := by
        rw [List.length_take, piecesF_len, Hm.out]; omega
      have e4 : (j : Int) - 1 = (k : Int) := by have := HJ.out; omega
      have e5 : IntKind.i64.wrap ((j : Int) - 1) = (k : Int) := by rw [e4]; exact IntWalk.i64_in _ (by omega)
      have e6 : IntKind.i64.wrap (k : Int) = (k : Int) := IntWalk.i64_in _ (by omega)
      have hk0 : (0 : Int) ≤ (k : Int) := by omega
      have hkm : (k : Int) < (m : Int) := by omega
      have hkN : k < m := by omega
      have hjN : j < m := by omega
      have hj0 : (0 : Int) ≤ (j : Int) := by omega
      have hj1 : (j : Int) < (m : Int) := by omega
      have cy : wr.cell? ⟨b, off + j, none⟩ = some (.int .i64 (y : Nat)) := by rw [HJ.out]; exact cy
      have hYW := YieldAt.mono (R' := fun e W' => ∃ q : Bool, e = .returned (.bool q) ∧ (q = true → J ((piecesF (boundsS s)).take (k + 1)) W' ∧ KT 3 X wr.drew W') ∧ (q = false → Jx ((piecesF (boundsS s)).take (k + 1)) W')) (hY _ (x, y) wr.drew (abides_below hJ hJr (Below.refl _ _).drew) hlen) (by
        rw [hp]
        rintro e W' (⟨h1, h2, h3⟩ | ⟨h1, h2⟩)
        · exact ⟨true, h1, fun _ => ⟨h2, h3⟩, fun h => absurd h (by decide)⟩
        · exact ⟨false, h1, fun h => absurd h (by decide), fun _ => h2⟩)
      obtain ⟨fn, tmps, assign, body, hy, hR⟩ := hYW
      dsimp only [encCl] at hy
      rw [hcl] at hy
      dsimp only [encP2] at hy
      clear hat hcl hlen hjm
      have hmx : Tryz.prog.follows .mixedOrders = true := by kernel_rfl
      gi_wp2_with fail
      gi_region_with_o (refine hR.mono ?_; rintro e W4 ⟨q, rfl, hqt, hqf⟩)
      all_goals
        cases q with
        | true =>
          obtain ⟨hJ4, hk4⟩ := hqt rfl
          gi_wp2_with fail
          go_roundw
          case rel => exact ⟨k + 1, j + 1, by go_num, Lib.hid (by rw [HJ.out]), .inr (by have := HJ.out; omega), hJ4, hk4.own hor (fun b hb => Nat.lt_of_lt_of_le (hX b hb) hWz)⟩
          case measure => simp [intOf]; omega
        | false =>
          have hJ4 := hqf rfl
          gi_wp2
          refine bodyPost_ret (results_none rfl _ _ _) rfl ?_
          exact ⟨⟨_, rfl⟩, .inr ⟨_, List.take_prefix _ _, hJ4⟩⟩
    · have hend : (piecesF (boundsS s)).take k = piecesF (boundsS s) := List.take_of_length_le (by have := HJ.out; rw [piecesF_len, Hm.out]; omega)
      rw [hend] at hJr
      gi_wp2
      go_end0
      first | exact ⟨⟨_, rfl⟩, .inl hJr⟩ | exact ⟨⟨_, rfl⟩, .inl ⟨_, rfl, hJr⟩⟩
end Go.Proofs.YtdngkienloligaaGreatDoor

/- -/
namespace Go.Proofs.YtdngkienloligaaGreatDoor
open Go.RowKit Go.Shelf
attribute [local go_sem] Oper.semAt_some
end Go.Proofs.YtdngkienloligaaGreatDoor

/- -/
namespace Go.Proofs.YtdngkienloligaaGreatDoor
open Go.RowKit
end Go.Proofs.YtdngkienloligaaGreatDoor

/- -/
namespace Go.Proofs.YtdngkienloligaaGreatDoor
open Go.RowKit Go.Shelf
attribute [local go_sem] Oper.semAt_some
theorem boundsS_head (s : ByteArray) : (boundsS s).getD 0 s.size = 0 := by
  unfold boundsS boundsX
  split
  · next h => simpa using h
  · next h =>
    obtain ⟨k, hk1, hk2⟩ := runesGo_step (s := s) (f := s.size) (a := 0) (by omega) (by omega)
    unfold runesP
    rw [hk2]
    simp [List.range_succ_eq_map, pickG]
end Go.Proofs.YtdngkienloligaaGreatDoor

