/-
  Several texts in one, in their build order: RefT, PropsY, Fmt.
-/
import Derived.Lib.OthersKept
import Derived.Deep.DeepMust
import Derived.Lib.Replace
import Derived.Lib.IndexBytes
import Derived.Deep.LoopGhost
import Derived.Lib.ConvBytes
import Derived.Laws.Bits64b
import Derived.Test.YtlbfbkdcjdeagaaGreatDoorZ1a
import Derived.Test.YtlbfbkdcjdeagaaGreatDoorZ0a
/-
  kerfref02.Runes, First.
-/
namespace Go.Proofs.YtlbfbkdcjdeagaaGreatDoor
open Go.RowKit

def encRn (x : Nat × Nat × Nat) : List Value := [.int .i32 x.1, .int .i64 x.2.1, .int .i64 x.2.2]
theorem encRn_ok (l : List (Nat × Nat × Nat)) : ∀ y ∈ l.map encRn, y.length = 3 ∧ ∀ u ∈ y, u.oneCell' = true := by
  intro y hy; obtain ⟨r, _, rfl⟩ := List.mem_map.1 hy
  exact ⟨rfl, by simp [encRn, Value.oneCell']⟩
theorem infoRR : (Tryz.prog.info? 38).map (fun i => (i.zero, i.size, i.bytes)) = some (some (.agg #[.int .i32 0, .int .i64 0, .int .i64 0]), 3, 24) := by kernel_rfl
theorem Own.iterAt {w : World} {base : Nat} {e : TypeId} {s : Nat} {A : Option Addr} {n c : Nat} {cs : List (List Value)} (h : Own w base e s A n c cs) {k : Nat} (hk : k < base) (t : ByteArray) (p : Nat) : Own (w.iterAt k t p) base e s A n c cs :=
  h.keep fun a ha => Lib.iterAt_other w k a.block t p (by have := (h.lt a ha).1; omega)
theorem iter_new (w : World) (s : ByteArray) (p : Nat) : (w.iter s p).heap[w.heap.size]? = some (.stringIter s p) := World.iter_heap w s p
theorem below_iter {B : Nat} {a w : World} (h : Below B a w) (hB : B ≤ w.heap.size) (s : ByteArray) (p : Nat) : Below B a (w.iter s p) := h.alloc hB _
theorem iterPos_of {w : World} {k p : Nat} {s : ByteArray} (h : w.heap[k]? = some (.stringIter s p)) : w.iterPos k = p := by unfold World.iterPos; rw [h]

/-- How far Runes has come. -/
def RunesAt (s : ByteArray) (p f : Nat) (o : List (Nat × Nat × Nat)) : Prop :=
  (o = [] ∧ p = 0 ∧ runesGo s f 0 = runesP s) ∨ ∃ o' r a, o = o' ++ [(r, a, s.size)] ∧ o' ++ (r, a, p) :: runesGo s f p = runesP s
theorem runesAt_first {s : ByteArray} {f : Nat} (h : runesGo s (f + 1) 0 = runesP s) (h0 : 0 < s.size) {R W : Nat} (hd : Utf8.decode s 0 = (R, W)) : RunesAt s (0 + W) f ([] ++ [(R, 0, s.size)]) := by
  refine .inr ⟨[], R, 0, rfl, ?_⟩
  rw [← h, runesGo, if_pos h0, hd]; rfl
theorem runesAt_next {s : ByteArray} {f p r a : Nat} {o' : List (Nat × Nat × Nat)} (h : o' ++ (r, a, p) :: runesGo s (f + 1) p = runesP s) (hp : p < s.size) {R W : Nat} (hd : Utf8.decode s p = (R, W)) :
    RunesAt s (p + W) f (o' ++ [(r, a, p)] ++ [(R, p, s.size)]) := by
  refine .inr ⟨o' ++ [(r, a, p)], R, p, rfl, ?_⟩
  rw [← h, runesGo, if_pos hp, hd]; simp
theorem runesAt_end {s : ByteArray} {f p : Nat} {o : List (Nat × Nat × Nat)} (h : RunesAt s p f o) (hp : p = s.size) : o = runesP s := by
  subst hp
  rcases h with ⟨rfl, h0, h⟩ | ⟨o', r, a, rfl, h⟩
  · rw [← h, runesGo_end (by omega)]
  · rw [← h, runesGo_end (Nat.le_refl _)]

set_option maxRecDepth 100000 in
set_option maxHeartbeats 800000 in
theorem sRunes_any (s : ByteArray) (w : World) (hs : s.size ≤ 1000000) :
    Calls Tryz.prog 22 #[.string s] w fun e w' => ∃ A n c, e = .returned (.slice A n c) ∧ Own w' w.heap.size 38 3 A n c ((runesP s).map encRn) ∧ Below w.heap.size w w' := by
  obtain ⟨i0, hi0, hz0, hz1, hz2⟩ := info_parts infoRR
  go_enter Tryz.func22, Tryz.ntmps22
  go_wp2
  go_loopw [3] (fun v wr => ∃ (p f : Nat) (A1 : Option Addr) (n1 c1 : Nat) (o : List (Nat × Nat × Nat)), v = .slice A1 n1 c1 ∧ wr.heap[w.heap.size]? = some (.stringIter s p) ∧ Own wr (w.heap.size + 1) 38 3 A1 n1 c1 (o.map encRn) ∧
      n1 ≤ p ∧ p ≤ s.size ∧ s.size ≤ p + f ∧ Hid (RunesAt s p f o) ∧ Below w.heap.size w wr) (fun _ wr => s.size - wr.iterPos w.heap.size)
  case atStart => exact ⟨0, s.size, none, 0, 0, [], rfl, iter_new _ _ _, Own.nil_ _ _ _ _, by omega, by omega, by omega, .inl ⟨rfl, rfl, rfl⟩, below_iter (Below.refl _ _) (Nat.le_refl _) _ _⟩
  case round =>
    obtain ⟨p, f, A1, n1, c1, o, rfl, hit, ho, hn1, hps, hf, HR, hb⟩ := hrel
    have hsz : w.heap.size < wr.heap.size := (Array.getElem?_eq_some_iff.1 hit).1
    have Hpos := Lib.hid (iterPos_of hit)
    by_cases hp : p < s.size
    · obtain ⟨⟨R, W⟩, HD⟩ : ∃ d, Utf8.decode s p = d := ⟨_, rfl⟩
      have hd := dec_bd s p hp
      have hnx : ∀ ty, (Instr.next (.pointer (some ⟨w.heap.size, 0, none⟩)) true ty).run Tryz.prog wr = _ := fun ty => Lib.run_next_any_at wr w.heap.size s p ty hit hp
      have hit2 := Lib.iterAt_heap wr w.heap.size s p (p + (Utf8.decode s p).2) hit
      have hb2 := Lib.below_iterAt hb (k := w.heap.size) (Nat.le_refl _) s (p + (Utf8.decode s p).2)
      have ho2 := ho.iterAt (k := w.heap.size) (by omega) s (p + (Utf8.decode s p).2)
      have hsz2 : w.heap.size < (wr.iterAt w.heap.size s (p + (Utf8.decode s p).2)).heap.size := by rw [Lib.iterAt_size]; exact hsz
      rw [HD] at hd hnx hit2 hb2 ho2 hsz2
      simp only at hd hnx hit2 hb2 ho2 hsz2
      have HD := Lib.hid HD
      obtain ⟨f, rfl⟩ : ∃ f', f = f' + 1 := ⟨f - 1, by omega⟩
      generalize wr.iterAt w.heap.size s (p + W) = w2 at hnx hit2 hb2 ho2 hsz2
      clear ho hb hit hsz
      rcases HR.out with ⟨rfl, rfl, hrun⟩ | ⟨o', r, a, rfl, hrun⟩
      · have HA := Lib.hid (runesAt_first hrun hp HD.out)
        obtain rfl : n1 = 0 := by omega
        clear hrun HR
        go_wp2_with (at_builtin; go_must (refine wpList_app rfl (.tmp 22) (.tmp 28) _ rfl (w.heap.size + 1) 38 i0 _ 3 24 Tryz.underlying34 hi0 hz0 hz1 hz2 rfl (by omega) A1 0 c1 ([].map encRn) rfl (ho2.alloc _) _ 1 1 [encRn (R, 0, s.size)] rfl rfl (Rd.newAt (by simp) rfl) (encRn_ok [(R, 0, s.size)]) (by unfold maxLen; omega) (by omega) (by simp; omega) ?_); intro A3 c3 w3 ho3 hg3 hA3; have hit3 := hg3.block w.heap.size (by simp; omega) (fun e => by cases A1 with | none => simp at e | some a => have := (ho2.lt a rfl).1; simp at e; omega); have hb3 := below_app (hb2.alloc (by omega) _) hg3 (by simp; omega) (fun a ha => by have := (ho2.lt a ha).1; omega); clear hg3)
        have hit4 : w3.heap[w.heap.size]? = some (.stringIter s (0 + W)) := hit3.trans ((Below.heap_alloc _ _ _ hsz2).trans hit2)
        have Ho3 : Own w3 (w.heap.size + 1) 38 3 A3 1 c3 (([] ++ [(R, 0, s.size)]).map encRn) := by rw [List.map_append]; exact ho3
        clear hit3 ho3
        go_roundw
        case rel => exact ⟨0 + W, f, A3, 1, c3, [] ++ [(R, 0, s.size)], rfl, hit4, Ho3, by omega, by omega, by omega, HA, hb3⟩
        case measure => rw [iterPos_of hit4, Hpos.out]; omega
      · have HA := Lib.hid (runesAt_next hrun hp HD.out)
        obtain ⟨j, rfl⟩ : ∃ j, n1 = j + 1 := ⟨n1 - 1, by have := ho2.len; simp at this; omega⟩
        obtain ⟨g, rfl, hgB, hgl⟩ := ho2.form (by omega)
        have Hj : Hid (o'.length = j) := Lib.hid (by have := ho2.len; simpa using this)
        have hx : ((o' ++ [(r, a, s.size)]).map encRn)[j]? = some (encRn (r, a, s.size)) := by have := Hj.out; subst this; simp
        have hc := ho2.cell (k := j) (j := 2) (u := .int .i64 s.size) hx rfl
        have hfz := ho2.frozen (j * 3 + 2)
        have ho4 := ho2.stored (k := j) (j := 2) hx (by omega) (.int .i64 p)
        have he : ((o' ++ [(r, a, s.size)]).map encRn).set j ((encRn (r, a, s.size)).set 2 (.int .i64 p)) = (o' ++ [(r, a, p)]).map encRn := by
          rw [List.map_append, List.map_append]
          have := set_mid (o'.map encRn) (encRn (r, a, s.size)) ((encRn (r, a, s.size)).set 2 (.int .i64 p)) []
          rw [List.length_map, Hj.out] at this
          exact this
        rw [he] at ho4
        have hb4 := hb2.setCell (p := ⟨g, j * 3 + 2, none⟩) (by simp only; omega) (.int .i64 p)
        have hit4 : (w2.setCell ⟨g, j * 3 + 2, none⟩ (.int .i64 p)).heap[w.heap.size]? = some (.stringIter s (p + W)) := (Below.heap_setCell w2 ⟨g, j * 3 + 2, none⟩ _ w.heap.size (by simp only; omega)).trans hit2
        have hw1 : IntKind.i64.wrap (j : Int) = j := IntWalk.i64_in _ (by omega)
        clear hrun HR hx he hit2 hb2
        go_wp2_with (at_builtin; go_must (refine wpList_app rfl (.tmp 22) (.tmp 28) _ rfl (w.heap.size + 1) 38 i0 _ 3 24 Tryz.underlying34 hi0 hz0 hz1 hz2 rfl (by omega) (some ⟨g, 0, none⟩) (j + 1) c1 ((o' ++ [(r, a, p)]).map encRn) rfl (ho4.alloc _) _ 1 1 [encRn (R, p, s.size)] rfl rfl (Rd.newAt (by simp) rfl) (encRn_ok [(R, p, s.size)]) (by unfold maxLen; omega) (by omega) (by simp; omega) ?_); intro A3 c3 w3 ho3 hg3 hA3; have hit3 := hg3.block w.heap.size (by simp; omega) (fun e => by simp at e; omega); have hb3 := below_app (hb4.alloc (by simp; omega) _) hg3 (by simp; omega) (fun a ha => by cases ha; simp only; omega); clear hg3)
        have hit5 : w3.heap[w.heap.size]? = some (.stringIter s (p + W)) := hit3.trans ((Below.heap_alloc _ _ _ (by simpa using hsz2)).trans hit4)
        have Ho3 : Own w3 (w.heap.size + 1) 38 3 A3 (j + 1 + 1) c3 ((o' ++ [(r, a, p)] ++ [(R, p, s.size)]).map encRn) := by rw [List.map_append]; exact ho3
        clear hit3 ho3
        go_roundw
        case rel => exact ⟨p + W, f, A3, j + 1 + 1, c3, o' ++ [(r, a, p)] ++ [(R, p, s.size)], rfl, hit5, Ho3, by omega, by omega, by omega, HA, hb3⟩
        case measure => rw [iterPos_of hit5, Hpos.out]; omega
    · have hnx : ∀ ty, (Instr.next (.pointer (some ⟨w.heap.size, 0, none⟩)) true ty).run Tryz.prog wr = _ := fun ty => Lib.run_next_end_at wr w.heap.size s p ty hit hp
      have HE := Lib.hid (runesAt_end HR.out (by omega))
      go_wp2
      go_ret
      exact ⟨_, _, _, rfl, by rw [← HE.out]; exact ho.more (by omega), hb⟩
end Go.Proofs.YtlbfbkdcjdeagaaGreatDoor

/-
  PLAIN: the library's words on parting and replacing, said of lines and tabs. No walk.
-/
namespace Go.Proofs.YtlbfbkdcjdeagaaGreatDoor

theorem indexByte_at {c : UInt8} (r : List UInt8) : ∀ (a : List UInt8), c ∉ a → Lib.indexByte (a ++ c :: r) c = a.length
  | [], _ => by rw [List.nil_append, Lib.indexByte, if_pos (by simp)]; rfl
  | b :: a, h => by
    have ih := indexByte_at r a (fun hm => h (List.mem_cons_of_mem _ hm))
    have hb : ¬ (b == c) = true := fun e => h (by rw [beq_iff_eq.1 e]; exact List.mem_cons_self)
    rw [List.cons_append, Lib.indexByte, ih, if_neg hb, if_neg (by simp)]
    simp
theorem splitL_no : ∀ {x : List UInt8}, (∀ c ∈ x, c ≠ 10) → splitL x = [x]
  | [], _ => rfl
  | c :: x, h => by
    show (if c = 10 then _ else _) = _
    rw [if_neg (h c (by simp)), splitL_no (fun d hd => h d (by simp [hd]))]
theorem splitK_lines : ∀ (k : Nat) (s : List UInt8), s.count 10 = k → Lib.splitK [10] 0 k s = splitL s
  | 0, s, h => by
    rw [splitL_no (fun c hc e => by subst e; exact absurd hc (List.count_eq_zero.1 h))]; rfl
  | k + 1, s, h => by
    have hm : (10 : UInt8) ∈ s := List.count_pos_iff.1 (by omega)
    obtain ⟨a, r, rfl, ha⟩ := List.eq_append_cons_of_mem hm
    have hi : Lib.index (a ++ 10 :: r) [10] = a.length := by rw [Lib.index_one]; exact indexByte_at r a ha
    have hr : r.count 10 = k := by
      rw [List.count_append, List.count_eq_zero.2 ha, List.count_cons_self] at h; omega
    rw [Lib.splitK, hi, if_neg (by simp), splitL_line (fun c hc e => ha (e ▸ hc))]
    congr 1
    · simp
    · rw [← splitK_lines k r hr]
      congr 1
      show List.drop ((a.length : Int).toNat + 1) _ = r
      rw [Int.toNat_natCast, ← List.drop_drop, List.drop_left]; rfl
theorem split_lines (s : ByteArray) : (Lib.splitB (bytesOf [10]) 0 (Lib.countB s (bytesOf [10])) s).map (·.data.toList) = splitL s.data.toList := by
  rw [Lib.splitB_data, bytesOf_list]
  refine splitK_lines _ _ ?_
  show _ = Lib.count s.data.toList (bytesOf [10]).data.toList
  rw [bytesOf_list, Lib.count_one]
theorem spcL_no : ∀ {x : List UInt8}, (9 : UInt8) ∉ x → spcL x = x
  | [], _ => rfl
  | c :: x, h => by
    show (if c = 9 then 32 else c) :: spcL x = _
    rw [if_neg (fun e => h (by simp [e])), spcL_no (fun hm => h (by simp [hm]))]
theorem replaceK_spc : ∀ (k : Nat) (s : List UInt8), s.count 9 = k → Lib.replaceK [9] [32] k s = spcL s
  | 0, s, h => by rw [spcL_no (List.count_eq_zero.1 h)]; rfl
  | k + 1, s, h => by
    have hm : (9 : UInt8) ∈ s := List.count_pos_iff.1 (by omega)
    obtain ⟨a, r, rfl, ha⟩ := List.eq_append_cons_of_mem hm
    have hi : Lib.index (a ++ 9 :: r) [9] = a.length := by rw [Lib.index_one]; exact indexByte_at r a ha
    have hr : r.count 9 = k := by
      rw [List.count_append, List.count_eq_zero.2 ha, List.count_cons_self] at h; omega
    rw [Lib.replaceK_hit _ _ _ _ _ hi]
    have e : (a ++ 9 :: r).drop (a.length + [(9 : UInt8)].length) = r := by
      show List.drop (a.length + 1) _ = r
      rw [← List.drop_drop, List.drop_left]; rfl
    rw [e, replaceK_spc k r hr, List.take_left]
    unfold spcL
    rw [List.map_append, List.map_cons, if_pos rfl]
    have : a.map (fun c => if c = 9 then (32 : UInt8) else c) = a := spcL_no ha
    rw [this]; simp
theorem replace_spc (s : List UInt8) : Lib.replaceAll s [9] [32] = spcL s := by
  unfold Lib.replaceAll Lib.replace
  rw [if_neg (by decide)]
  refine replaceK_spc _ _ ?_
  unfold Lib.replaceNum
  rw [if_pos (.inl (by decide)), Lib.count_one]
theorem splitL_ne : ∀ (s : List UInt8), splitL s ≠ []
  | [] => by simp [splitL]
  | c :: r => by
    unfold splitL
    split
    · simp
    · split <;> simp
theorem splitL_count : ∀ (s : List UInt8), (splitL s).length = s.count 10 + 1
  | [] => rfl
  | c :: r => by
    have ih := splitL_count r
    unfold splitL
    split
    · rename_i h; subst h; rw [List.length_cons, ih, List.count_cons_self]
    · rename_i h
      rw [List.count_cons_of_ne h]
      cases hs : splitL r with
      | nil => exact absurd hs (splitL_ne r)
      | cons x t => rw [hs] at ih; simpa using ih
/- The document's lines: read byte by byte. -/
theorem splitL_snoc_line (done : List (List UInt8)) (x r : List UInt8) (h : ∀ c ∈ x, c ≠ 10) : done ++ splitL (x ++ 10 :: r) = (done ++ [x]) ++ splitL r := by rw [splitL_line h]; simp
/-- The lines of a text of which some bytes were read: those done, and the one begun. -/
structure LinesAt (s : List UInt8) (i frm : Nat) (done : List (List UInt8)) : Prop where
  le : frm ≤ i
  le2 : i ≤ s.length
  clean : ∀ c ∈ (s.drop frm).take (i - frm), c ≠ 10
  all : splitL s = done ++ splitL (s.drop frm)
theorem LinesAt.start (s : List UInt8) : LinesAt s 0 0 [] := ⟨Nat.le_refl _, Nat.zero_le _, by simp, by simp⟩
theorem LinesAt.byte {s : List UInt8} {i frm : Nat} {done : List (List UInt8)} {c : UInt8} (h : LinesAt s i frm done) (hc : s[i]? = some c) (hn : c ≠ 10) : LinesAt s (i + 1) frm done := by
  have hlt := (List.getElem?_eq_some_iff.1 hc).1
  refine ⟨by have := h.le; omega, by omega, fun d hd => ?_, h.all⟩
  have hle := h.le
  rw [show i + 1 - frm = (i - frm) + 1 by omega, List.take_add_one, List.getElem?_drop, show frm + (i - frm) = i by omega, hc] at hd
  rcases List.mem_append.1 hd with hd | hd
  · exact h.clean d hd
  · simp at hd; subst hd; exact hn
theorem LinesAt.line {s : List UInt8} {i frm : Nat} {done : List (List UInt8)} (h : LinesAt s i frm done) (hc : s[i]? = some 10) : LinesAt s (i + 1) (i + 1) (done ++ [(s.drop frm).take (i - frm)]) := by
  have hlt := (List.getElem?_eq_some_iff.1 hc).1
  have hle := h.le
  refine ⟨Nat.le_refl _, by omega, by simp, ?_⟩
  have e : s.drop frm = (s.drop frm).take (i - frm) ++ 10 :: s.drop (i + 1) := by
    conv => lhs; rw [← List.take_append_drop (i - frm) (s.drop frm)]
    rw [List.drop_drop, show frm + (i - frm) = i by omega, drop_cons_of hc]
  rw [h.all]
  conv => lhs; rw [e]
  exact splitL_snoc_line done _ _ h.clean
theorem LinesAt.done {s : List UInt8} {frm : Nat} {done : List (List UInt8)} (h : LinesAt s s.length frm done) : splitL s = done ++ [s.drop frm] := by
  have hc := h.clean
  rw [List.take_of_length_le (by rw [List.length_drop]; omega)] at hc
  rw [h.all, splitL_no hc]
end Go.Proofs.YtlbfbkdcjdeagaaGreatDoor

/-
  strconv.FormatInt at base 16, of a rune's number.
-/
namespace Go.Proofs.YtlbfbkdcjdeagaaGreatDoor
open Go.RowKit

def lowD (d : Nat) : UInt8 := if d < 10 then UInt8.ofNat (48 + d) else UInt8.ofNat (87 + d)
/-- The last k hexadecimal digits of a number, in lower case. -/
def lowW : Nat → Nat → List UInt8
  | 0, _ => []
  | k + 1, n => lowW k (n / 16) ++ [lowD (n % 16)]
def hexL (n : Nat) : Nat := if n < 16 then 1 else if n < 256 then 2 else if n < 4096 then 3 else hexK n
def lowS (n : Nat) : List UInt8 := lowW (hexL n) n
/-- The library's table holds what is read at base 16. -/
def TabB (w : World) : Prop := w.cell? ⟨7, 15, none⟩ = some (.int .u8 4)

theorem isPow_any (w : World) : Calls Tryz.prog 258 #[.int .i64 16] w fun e w' => e = .returned (.bool true) ∧ w = w' := by
  go_enter Tryz.func258, Tryz.ntmps258
  go_wp2
  go_ret
  exact ⟨rfl, rfl⟩
theorem tz64_any (w : World) (h : TabB w) : Calls Tryz.prog 261 #[.int .u64 16] w fun e w' => e = .returned (.int .i64 4) ∧ w = w' := by
  unfold TabB at h
  have key : IntKind.u64.wrap (bits BinOp.and IntKind.u64 16 (IntKind.u64.wrap (-16)) * 285870213051353865) / 288230376151711744 = 15 := by kernel_rfl
  go_enter Tryz.func261, Tryz.ntmps261
  go_wp2_with (simp only [key])
  go_ret
  exact ⟨rfl, rfl⟩
theorem tz_any (w : World) (h : TabB w) : Calls Tryz.prog 259 #[.int .u64 16] w fun e w' => e = .returned (.int .i64 4) ∧ w = w' := by
  go_enter Tryz.func259, Tryz.ntmps259
  go_wp2_with fail
  refine (tz64_any _ h).mono ?_
  rintro e w' ⟨rfl, rfl⟩
  go_wp2
  go_ret
  exact ⟨rfl, rfl⟩

theorem hexL_bd (n : Nat) : 1 ≤ hexL n ∧ hexL n ≤ 6 := by unfold hexL; have := hexK_bd n; split <;> (try split) <;> (try split) <;> omega
theorem hexL_lt {n j : Nat} (hn : n ≤ 1114111) (h : 16 ≤ n / 16 ^ j) : j + 1 < hexL n := by
  have h2 : 16 ^ (j + 1) ≤ n := by
    have := (Nat.le_div_iff_mul_le (Nat.pow_pos (by decide : 0 < 16))).1 h
    rw [Nat.pow_succ]; omega
  have hb := hexL_bd n
  have : n < 16 ^ hexL n := by
    unfold hexL hexK
    split
    · simpa using ‹_›
    · split
      · simpa using ‹_›
      · split
        · simpa using ‹_›
        · split
          · simpa using ‹_›
          · split
            · simpa using ‹_›
            · show n < 16777216; omega
  rcases Nat.lt_or_ge (j + 1) (hexL n) with h | h
  · exact h
  · have := Nat.pow_le_pow_right (by decide : 0 < 16) h
    omega
theorem hexL_ge {n j : Nat} (h : n / 16 ^ j < 16) : hexL n ≤ j + 1 := by
  have h2 : n < 16 ^ (j + 1) := by
    rw [Nat.pow_succ]
    have := (Nat.div_lt_iff_lt_mul (Nat.pow_pos (by decide : 0 < 16))).1 h
    omega
  have hb := hexL_bd n
  rcases (by omega : j = 0 ∨ j = 1 ∨ j = 2 ∨ j = 3 ∨ j = 4 ∨ 5 ≤ j) with rfl | rfl | rfl | rfl | rfl | h
  · have : n < 16 := h2
    unfold hexL; rw [if_pos this]; omega
  · have : n < 256 := h2
    unfold hexL; split <;> (try split) <;> omega
  · have : n < 4096 := h2
    unfold hexL; split <;> (try split) <;> (try split) <;> omega
  · have : n < 65536 := h2
    unfold hexL hexK; split <;> (try split) <;> (try split) <;> (try split) <;> omega
  · have : n < 1048576 := h2
    unfold hexL hexK; split <;> (try split) <;> (try split) <;> (try split) <;> (try split) <;> omega
  · omega
/-- How far formatBits has come: j digits are laid. -/
def FmtAt (n j x : Nat) (cs : Array Value) : Prop := x = n / 16 ^ j ∧ cs.size = 65 ∧ cs.toList.drop (65 - j) = (lowW j n).map (fun c => Value.int .u8 c.toNat) ∧ j < hexL n
theorem dig36 (d : Nat) (h : d < 16) (W : World) : (Instr.index 9 (.string ⟨#[48, 49, 50, 51, 52, 53, 54, 55, 56, 57, 97, 98, 99, 100, 101, 102, 103, 104, 105, 106, 107, 108, 109, 110, 111, 112, 113, 114, 115, 116, 117, 118, 119, 120, 121, 122]⟩) (.int .u64 d)).run Tryz.prog W = .ok (.int .u8 ((lowD d).toNat : Int)) W := by
  rw [run_index_string _ _ _ _ _ Tryz.underlying9]
  rcases (by omega : d = 0 ∨ d = 1 ∨ d = 2 ∨ d = 3 ∨ d = 4 ∨ d = 5 ∨ d = 6 ∨ d = 7 ∨ d = 8 ∨ d = 9 ∨ d = 10 ∨ d = 11 ∨ d = 12 ∨ d = 13 ∨ d = 14 ∨ d = 15) with rfl | rfl | rfl | rfl | rfl | rfl | rfl | rfl | rfl | rfl | rfl | rfl | rfl | rfl | rfl | rfl <;> rfl

theorem lowW_succ (j n : Nat) : lowW (j + 1) n = lowD (n / 16 ^ j % 16) :: lowW j n := by
  induction j generalizing n with
  | zero => simp [lowW]
  | succ j ih => rw [lowW, ih, lowW, Nat.div_div_eq_div_mul, ← Nat.pow_succ']; rfl
theorem lowW_len : ∀ (k n : Nat), (lowW k n).length = k
  | 0, _ => rfl
  | k + 1, n => by rw [lowW, List.length_append, lowW_len k]; rfl
theorem drop_set_self {α : Type} : ∀ (l : List α) (k : Nat) (v : α), k < l.length → (l.set k v).drop k = v :: l.drop (k + 1)
  | [], k, _, h => by simp at h
  | _ :: _, 0, _, _ => rfl
  | _ :: l, k + 1, v, h => drop_set_self l k v (by simpa using h)
theorem dig_eq (d : Nat) (h : d < 16) (hd : d < (⟨#[48, 49, 50, 51, 52, 53, 54, 55, 56, 57, 97, 98, 99, 100, 101, 102, 103, 104, 105, 106, 107, 108, 109, 110, 111, 112, 113, 114, 115, 116, 117, 118, 119, 120, 121, 122]⟩ : ByteArray).size) :
    ((⟨#[48, 49, 50, 51, 52, 53, 54, 55, 56, 57, 97, 98, 99, 100, 101, 102, 103, 104, 105, 106, 107, 108, 109, 110, 111, 112, 113, 114, 115, 116, 117, 118, 119, 120, 121, 122]⟩ : ByteArray)[d]'hd) = lowD d := by
  rcases (by omega : d = 0 ∨ d = 1 ∨ d = 2 ∨ d = 3 ∨ d = 4 ∨ d = 5 ∨ d = 6 ∨ d = 7 ∨ d = 8 ∨ d = 9 ∨ d = 10 ∨ d = 11 ∨ d = 12 ∨ d = 13 ∨ d = 14 ∨ d = 15) with rfl | rfl | rfl | rfl | rfl | rfl | rfl | rfl | rfl | rfl | rfl | rfl | rfl | rfl | rfl | rfl <;> rfl
theorem v_u64 {a b : Int} (h : a = b) : Value.int .u64 a = .int .u64 b := by rw [h]
theorem v_u8 {a b : Int} (h : a = b) : Value.int .u8 a = .int .u8 b := by rw [h]
theorem fmt_put {n j x p d : Nat} {cs : Array Value} (h : FmtAt n j x cs) (hp : p + j = 65) (hd : x % 16 = d) :
    (cs.setIfInBounds (p - 1) (.int .u8 (lowD d).toNat)).size = 65 ∧ (cs.setIfInBounds (p - 1) (.int .u8 (lowD d).toNat)).toList.drop (65 - (j + 1)) = (lowW (j + 1) n).map (fun c => Value.int .u8 c.toNat) := by
  obtain ⟨h1, h2, h3, h4⟩ := h
  have hb := hexL_bd n
  refine ⟨by simpa using h2, ?_⟩
  rw [Array.toList_setIfInBounds, show 65 - (j + 1) = p - 1 by omega, drop_set_self _ _ _ (by rw [Array.length_toList]; omega), lowW_succ, List.map_cons, show p - 1 + 1 = 65 - j by omega, h3, ← h1, hd]
theorem fmt_next {n j x p d q : Nat} {cs : Array Value} (h : FmtAt n j x cs) (hn : n ≤ 1114111) (hp : p + j = 65) (hx : x = 16 * q + d) (h16 : d < 16) (hc : 16 ≤ x) : FmtAt n (j + 1) q (cs.setIfInBounds (p - 1) (.int .u8 (lowD d).toNat)) := by
  obtain ⟨k1, k2⟩ := fmt_put h hp (show x % 16 = d by omega)
  obtain ⟨h1, h2, h3, h4⟩ := h
  exact ⟨by rw [Nat.pow_succ, ← Nat.div_div_eq_div_mul, ← h1]; omega, k1, k2, hexL_lt hn (by omega)⟩
theorem fmt_end {n j x p : Nat} {cs : Array Value} (h : FmtAt n j x cs) (hp : p + j = 65) (hc : x < 16) :
    j + 1 = hexL n ∧ ∀ k, (hk : k < (lowS n).length) → (cs.setIfInBounds (p - 1) (.int .u8 (lowD x).toNat))[p - 1 + k]? = some (.int .u8 ((lowS n)[k].toNat : Int)) := by
  obtain ⟨k1, k2⟩ := fmt_put h hp (show x % 16 = x by omega)
  obtain ⟨h1, h2, h3, h4⟩ := h
  have hb := hexL_bd n
  have hj : j + 1 = hexL n := by have := hexL_ge (n := n) (j := j) (by omega); omega
  refine ⟨hj, fun k hk => ?_⟩
  have := congrArg (·[k]?) k2
  simp only [List.getElem?_drop, List.getElem?_map] at this
  rw [show 65 - (j + 1) + k = p - 1 + k by omega, Array.getElem?_toList] at this
  rw [this, hj]
  show Option.map _ ((lowS n)[k]?) = _
  rw [List.getElem?_eq_getElem hk]; rfl
theorem sl65 (b p : Nat) (h : 60 ≤ p) (h2 : p ≤ 65) (W : World) : (Instr.sliceAt 248 (.pointer (some ⟨b, 0, none⟩)) (some (.int .i64 ((p : Int) - 1))) none none).run Tryz.prog W = .ok (.slice (some ⟨b, p - 1, none⟩) (66 - p) (66 - p)) W := by
  rcases (by omega : p = 60 ∨ p = 61 ∨ p = 62 ∨ p = 63 ∨ p = 64 ∨ p = 65) with rfl | rfl | rfl | rfl | rfl | rfl <;> kernel_rfl

set_option maxRecDepth 100000 in
set_option maxHeartbeats 1000000 in
theorem fbits_any (n : Nat) (w : World) (h1 : n ≤ 1114111) (hT : TabB w) :
    Calls Tryz.prog 255 #[.slice none 0 0, .int .u64 n, .int .i64 16, .bool false, .bool false] w fun e w' => e = .returned (.tuple #[.slice none 0 0, .string ⟨(lowS n).toArray⟩]) ∧ Below w.heap.size w w' := by
  go_enter Tryz.func255, Tryz.ntmps255
  go_wp2_with fail
  refine (isPow_any _).mono ?_
  rintro e w' ⟨rfl, rfl⟩
  go_wp2_with fail
  refine (tz_any _ (by unfold TabB at hT ⊢; exact cell_keep hT ((Below.refl _ _).alloc (Nat.le_refl _) _))).mono ?_
  rintro e w' ⟨rfl, rfl⟩
  go_wp2
  have hblk : Blk (w.alloc (Obj.cells Tryz.zeroCells248 248)) w.heap.size 248 Tryz.zeroCells248 := Blk.new _ _ _
  have hbel : Below w.heap.size w (w.alloc (Obj.cells Tryz.zeroCells248 248)) := (Below.refl _ _).alloc (Nat.le_refl _) _
  have hz : (Tryz.zeroCells248).size = 65 := by kernel_rfl
  have HF := Lib.hid (show FmtAt n 0 n Tryz.zeroCells248 from ⟨by simp, hz, by rw [List.drop_of_length_le (by simp [hz])]; rfl, by unfold hexL; split <;> (try split) <;> (try split) <;> (try unfold hexK) <;> (try split) <;> (try split) <;> omega⟩)
  generalize Tryz.zeroCells248 = cs0 at hblk hbel HF hz ⊢
  clear hz
  go_loopg [1, 13] 6 (fun gk v1 v13 wx => ∃ (j x p : Nat) (cs : Array Value), v1 = .int .u64 x ∧ v13 = .int .i64 p ∧ Blk wx w.heap.size 248 cs ∧ Hid (FmtAt n j x cs) ∧ Hid (j + gk = 6) ∧ Hid (p + j = 65) ∧ x ≤ 1114111 ∧ p ≤ 65 ∧ 60 ≤ p ∧ Below w.heap.size w wx)
  case atStart => exact ⟨0, n, 65, _, rfl, rfl, hblk, HF, Lib.hid rfl, Lib.hid rfl, h1, by omega, by omega, hbel⟩
  case round =>
    clear hblk hbel HF
    obtain ⟨j, x, p, cs, rfl, rfl, hblk, HF, HG, HP, hx, hp1, hp2, hbel⟩ := hrel
    by_cases hc : 16 ≤ x
    · obtain ⟨q, d, hd, h16⟩ : ∃ q d, x = 16 * q + d ∧ d < 16 := ⟨x / 16, x % 16, by omega, by omega⟩
      have hand : bits BinOp.and IntKind.u64 (x : Int) 15 = (d : Int) := by
        have h := bits_and_u64_nat x 15 (by omega) (by omega)
        refine h.trans ?_
        rw [show (15 : Nat) = 2 ^ 4 - 1 from rfl, Nat.and_two_pow_sub_one_eq_mod]; omega
      have hf := hblk.frozen (p - 1)
      obtain ⟨v0, hv0⟩ : ∃ v0, cs[p - 1]? = some v0 := ⟨_, Array.getElem?_eq_getElem (by have := HF.out.2.1; omega)⟩
      have hc0 : wr.cell? ⟨w.heap.size, p - 1, none⟩ = some v0 := (hblk.cell _).trans hv0
      have Hd := Lib.hid hd
      clear hd hv0
      have HN := Lib.hid (fmt_next HF.out h1 HP.out Hd.out h16 hc)
      have hj5 : p - 1 + (j + 1) = 65 := by have := HP.out; omega
      have Hj5 := Lib.hid hj5
      have hp3 : 61 ≤ p := by have := HN.out.2.2.2; have := hexL_bd n; omega
      obtain ⟨g', rfl⟩ : ∃ g', gk = g' + 1 := ⟨gk - 1, by have := HG.out; have := HN.out.2.2.2; have := hexL_bd n; omega⟩
      clear hj5
      go_wp2
      go_roundg g'
      case rel =>
        refine ⟨j + 1, q, p - 1, _, v_u64 (by have := Hd.out; omega), by go_num, hblk.set_ _ _, ?_, Lib.hid (by have := HG.out; omega), Hj5, by have := Hd.out; omega, by omega, by omega, hbel.setCell (p := ⟨w.heap.size, p - 1, none⟩) (by simp) _⟩
        rw [v_u8 (congrArg (fun z : UInt8 => (z.toNat : Int)) (dig_eq d h16 _))]
        exact HN
      case measure => omega
    · have hf := hblk.frozen (p - 1)
      obtain ⟨v0, hv0⟩ : ∃ v0, cs[p - 1]? = some v0 := ⟨_, Array.getElem?_eq_getElem (by have := HF.out.2.1; omega)⟩
      have hc0 : wr.cell? ⟨w.heap.size, p - 1, none⟩ = some v0 := (hblk.cell _).trans hv0
      have hsl := sl65 w.heap.size p hp2 hp1
      have HE := Lib.hid (fmt_end HF.out HP.out (by omega))
      clear hv0
      go_wp2
      rw [v_u8 (congrArg (fun z : UInt8 => (z.toNat : Int)) (dig_eq x (by omega) _))]
      have hB := hblk.set_ (p - 1) (.int .u8 ((lowD x).toNat : Int))
      have hl : (lowS n).length = 66 - p := by have h9 := HE.out.1; have := HP.out; unfold lowS; rw [lowW_len]; omega
      have hcv := run_convert_bytes_back (P := Tryz.prog) (wr.setCell ⟨w.heap.size, p - 1, none⟩ (.int .u8 ((lowD x).toNat : Int))) 96 9 5 ⟨w.heap.size, p - 1, none⟩ (66 - p) (lowS n) Tryz.underlying96 Tryz.underlying5 Tryz.underlying9 (fun k hk => by
        have e : (⟨w.heap.size, p - 1, none⟩ : Addr).add k = ⟨w.heap.size, p - 1 + k, none⟩ := by
          unfold Addr.add
          split
          · rename_i h0; rw [h0, Nat.add_zero]
          · rfl
        rw [e, hB.cell, HE.out.2 k hk])
      rw [hl] at hcv
      rw [hcv]
      simp only [Result.andThen]
      rw [Oper.upon_value]
      go_wp2
      go_ret2
      exact ⟨rfl, hbel.setCell (p := ⟨w.heap.size, p - 1, none⟩) (by simp) _⟩
theorem iFormat_any (n : Nat) (w : World) (h1 : n ≤ 1114111) (hT : TabB w) :
    Calls Tryz.prog 251 #[.int .i64 n, .int .i64 16] w fun e w' => e = .returned (.string ⟨(lowS n).toArray⟩) ∧ Below w.heap.size w w' := by
  go_enter Tryz.func251, Tryz.ntmps251
  go_wp2_with fail
  refine (fbits_any n _ h1 hT).mono ?_
  rintro e w' ⟨rfl, hb⟩
  go_wp2
  go_ret
  exact ⟨rfl, hb⟩
end Go.Proofs.YtlbfbkdcjdeagaaGreatDoor

