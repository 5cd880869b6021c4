/-
  Several texts in one, in their build order: PrC, PrD, PrE, PrG, PrJ, Vf, PrK, PrL, PtN, PtO, Qd, Vi, Vm, PtP, Vc, Ve.
-/
import Derived.OwnWalk
import Derived.Deep.DeepCutAuto
import Derived.Test.YtdnkignhenkamaaGreatDoorZ6a
import Derived.Test.YtdnkignhenkamaaGreatDoorZ5a
import Derived.Test.YtdnkignhenkamaaGreatDoorZ1a
import Derived.Test.YtdnkignhenkamaaGreatDoorZPtM
import Derived.Test.YtdnkignhenkamaaGreatDoorZ0a
import Derived.Test.YtdnkignhenkamaaGreatDoorZ3a
/- -/
namespace Go.Proofs.YtdnkignhenkamaaGreatDoor
open Go.RowKit
def PCell (w : World) (b : Nat) (v : Pv) : Prop := w.cell? ⟨b, 0, none⟩ = some (.int .i64 (v.1 : Int)) ∧ w.cell? ⟨b, 1, none⟩ = some (.slice v.2.1.1 v.2.1.2.1 v.2.1.2.2) ∧ w.cell? ⟨b, 2, none⟩ = some (.slice v.2.2.1 v.2.2.2.1 v.2.2.2.2)
theorem PCell.of_blk {w : World} {b : Nat} {v : Pv} (h : Blk w b 126 #[.int .i64 (v.1 : Int), .slice v.2.1.1 v.2.1.2.1 v.2.1.2.2, .slice v.2.2.1 v.2.2.2.1 v.2.2.2.2]) : PCell w b v := ⟨h.cell 0, h.cell 1, h.cell 2⟩
set_option maxRecDepth 100000 in
theorem res_one (w : World) (b : Nat) (v : Pv) (tmps : Array Value) (ht : tmps.getD 2 undef = .pointer (some ⟨b, 0, none⟩)) (hc : PCell w b v) : (results Tryz.f260 tmps).run Tryz.prog w = .ok (valPt v) w := by
  have ht' : tmps[2]?.getD undef = .pointer (some ⟨b, 0, none⟩) := by simpa [Array.getD_eq_getD_getElem?] using ht
  obtain ⟨h0, h1, h2⟩ := hc
  simp [results, Tryz.results260, go_sem, ht', h0, h1, h2, valPt]
set_option maxRecDepth 100000 in
set_option maxHeartbeats 1000000 in
theorem jone_any (c : Nat) (w : World) : Calls Tryz.prog 260 #[.int .i64 (c : Nat)] w fun e w' => ∃ v, e = .returned (valPt v) ∧ PatX w' (fun b => w.heap.size ≤ b) (.node 1 [c] []) v ∧ Below w.heap.size w w' := by
  go_enter Tryz.func260, Tryz.ntmps260
  go_wp2
  have hbl : Blk ((w.alloc (.cells #[.int .i64 1, .slice (some ⟨w.heap.size + 1, 0, none⟩) 1 1, .slice none 0 0] 126)).alloc (.cells #[.int .i64 (c : Int)] 3)) w.heap.size 126 #[.int .i64 1, .slice (some ⟨w.heap.size + 1, 0, none⟩) 1 1, .slice none 0 0] := (Blk.new _ _ _).alloc _
  refine bodyPost_ret (res_one _ w.heap.size (1, (some ⟨w.heap.size + 1, 0, none⟩, 1, 1), (none, 0, 0)) _ rfl (PCell.of_blk hbl)) rfl ?_
  refine ⟨_, rfl, ?_, ?_⟩
  · simp only [PatX]
    refine ⟨trivial, ⟨Rd.newAt (x := encN c) (by simp) rfl, rfl, fun a ha => ?_⟩, [], SlX.nil_ _ _ _, by simp only [PatsX]⟩
    injection ha with ha
    subst ha
    simp
  · exact ((Below.refl _ _).alloc (Nat.le_refl _) _).alloc (by simp) _
def pickB (M : List Bool) (no : Bool) (i : Nat) : List Nat := (List.range i).filter fun j => M.getD j false != no
theorem pickB_next (M : List Bool) (no : Bool) (i : Nat) : pickB M no (i + 1) = pickB M no i ++ (if M.getD i false != no then [i] else []) := by
  unfold pickB
  rw [List.range_succ, List.filter_append]
  congr 1
  cases h : (M.getD i false != no) with
  | true => rw [List.filter_cons_of_pos (p := fun j => M.getD j false != no) h]; rfl
  | false => rw [List.filter_cons_of_neg (p := fun j => M.getD j false != no) (by rw [h]; decide)]; rfl
def encBo (x : Bool) : List Value := [.bool x]
theorem Rd.atBo {w : World} {A : Option Addr} {l : List Bool} {k : Nat} {x : Bool} (h : Rd w 1 A (l.map encBo)) (hk : l[k]? = some x) : ∃ b off, A = some ⟨b, off, none⟩ ∧ w.cell? ⟨b, off + k, none⟩ = some (.bool x) := by
  obtain ⟨b, off, rfl, hc⟩ := h (by intro e; cases l with | nil => simp at hk | cons _ _ => simp at e)
  have h0 := hc k 0 (encBo x) (.bool x) (by simp [hk]) rfl
  exact ⟨b, off, rfl, by simpa using h0⟩
set_option maxRecDepth 100000 in
theorem res_from (w : World) (b : Nat) (v : Pv) (tmps : Array Value) (ht : tmps.getD 6 undef = .pointer (some ⟨b, 0, none⟩)) (hc : PCell w b v) : (results Tryz.f259 tmps).run Tryz.prog w = .ok (valPt v) w := by
  have ht' : tmps[6]?.getD undef = .pointer (some ⟨b, 0, none⟩) := by simpa [Array.getD_eq_getD_getElem?] using ht
  obtain ⟨h0, h1, h2⟩ := hc
  simp [results, Tryz.results259, go_sem, ht', h0, h1, h2, valPt]
set_option maxRecDepth 100000 in
set_option maxHeartbeats 4000000 in
theorem jfrom_any (n : Nat) (A : Option Addr) (m c : Nat) (M : List Bool) (no : Bool) (w : World) (hA : Rd w 1 A (M.map encBo)) (hm : M.length = n) (hmm : m = n) (hn : n ≤ 1000000) :
    Calls Tryz.prog 259 #[.int .i64 (n : Nat), .slice A m c, .bool no] w fun e w' => ∃ v, e = .returned (valPt v) ∧ PatX w' (fun b => w.heap.size ≤ b) (.node 1 (pickB M no n) []) v ∧ Below w.heap.size w w' := by
  obtain ⟨i0, hi0, hz0, hz1, hz2⟩ := info_parts infoInt
  subst hmm
  have Hm := Lib.hid hm
  clear hm
  go_enter Tryz.func259, Tryz.ntmps259
  go_wp2
  have hS1 : Blk ((w.alloc (.cells #[.int .i64 0, .slice none 0 0, .slice none 0 0] 126)).alloc (.cells #[.int .i64 1, .slice none 0 0, .slice none 0 0] 126)) (w.heap.size + 1) 126 #[.int .i64 1, .slice none 0 0, .slice none 0 0] := by
    have h := Blk.new (w.alloc (.cells #[.int .i64 0, .slice none 0 0, .slice none 0 0] 126)) 126 #[.int .i64 1, .slice none 0 0, .slice none 0 0]
    simpa using h
  have hS0 : Blk ((w.alloc (.cells #[.int .i64 0, .slice none 0 0, .slice none 0 0] 126)).alloc (.cells #[.int .i64 1, .slice none 0 0, .slice none 0 0] 126)) w.heap.size 126 #[.int .i64 0, .slice none 0 0, .slice none 0 0] := (Blk.new w _ _).alloc _
  go_loopw [8] (fun v wr => ∃ (k : Nat) (A1 : Option Addr) (n1 c1 : Nat), v = .int .i64 k ∧ k ≤ m ∧ n1 ≤ k ∧ Own wr (w.heap.size + 2) 3 1 A1 n1 c1 ((pickB M no k).map encN) ∧ Blk wr (w.heap.size + 1) 126 #[.int .i64 1, .slice A1 n1 c1, .slice none 0 0] ∧ Blk wr w.heap.size 126 #[.int .i64 0, .slice none 0 0, .slice none 0 0] ∧ Below w.heap.size w wr) (fun v _ => m - (intOf v).toNat)
  case atStart => exact ⟨0, none, 0, 0, rfl, by omega, by omega, Own.nil_ _ _ _ _, hS1, hS0, ((Below.refl _ _).alloc (Nat.le_refl _) _).alloc (by simp) _⟩
  case round =>
    obtain ⟨k, A1, n1, c1, rfl, hk, hnk, ho, hB1, hB0, hb⟩ := hrel
    by_cases hlt : k < m
    · obtain ⟨x, hx⟩ : ∃ x, M[k]? = some x := ⟨_, List.getElem?_eq_getElem (by have := Hm.out; omega)⟩
      obtain ⟨bk, off, rfl, cM⟩ := (hA.below hb).atBo hx
      have hpn := pickB_next M no k
      have hgd : M.getD k false = x := by rw [List.getD_eq_getElem?_getD, hx]; rfl
      have hzr := hB1.lt
      have p1 := hB1.cell 1
      simp only [List.getElem?_toArray, List.getElem?_cons_succ, List.getElem?_cons_zero] at p1
      cases hq : (x != no) with
      | true =>
        rw [hgd, hq, if_pos rfl] at hpn
        have hq2 : (x == no) = false := by cases x <;> cases no <;> first | rfl | cases hq
        have Hpn := Lib.hid hpn
        clear hpn hgd
        have T1 := (ho.alloc (.cells #[.int .i64 (k : Int)] 3))
        have T2 : (n1 + 1) * 8 ≤ 140737488355328 := by omega
        have T3 : w.heap.size + 2 ≤ (wr.alloc (.cells #[.int .i64 (k : Int)] 3)).heap.size := by simp; omega
        have T4 := encN_ok' [k]
        have T5 : Rd (wr.alloc (.cells #[.int .i64 (k : Int)] 3)) 1 (some ⟨wr.heap.size, 0, none⟩) [encN k] := Rd.newAt (by simp) rfl
        have T6 : n1 + 1 ≤ maxLen := by unfold maxLen; omega
        have hNE : some (w.heap.size + 1) ≠ A1.map (·.block) := fun e => by
          cases hA1 : A1 with
          | none => rw [hA1] at e; cases e
          | some a => rw [hA1] at e; injection e with e; have e2 : w.heap.size + 1 = a.block := e; have := (ho.lt a hA1).1; omega
        go_wp2_with (at_builtin; refine wpList_app rfl (.tmp 22) (.tmp 24) _ rfl (w.heap.size + 2) 3 i0 _ 1 8 Tryz.underlying23 hi0 hz0 hz1 hz2 rfl (by omega) A1 n1 c1 ((pickB M no k).map encN) rfl T1 _ 1 1 [encN k] rfl rfl T5 T4 T6 T2 T3 ?_; intro A3 c3 w5 ho5 hg5 hA5; have hB5 := (hB1.alloc (.cells #[.int .i64 (k : Int)] 3)).grown hg5 hNE; have d1 := hB5.cell 1; simp only [List.getElem?_toArray, List.getElem?_cons_succ, List.getElem?_cons_zero] at d1; have f1 := hB5.frozen 1)
        have hB50 := (hB0.alloc (.cells #[.int .i64 (k : Int)] 3)).grown hg5 (fun e => by
          cases hA1 : A1 with
          | none => rw [hA1] at e; cases e
          | some a => rw [hA1] at e; injection e with e; have e2 : w.heap.size = a.block := e; have := (ho.lt a hA1).1; omega)
        have hb5 := below_app (hb.alloc (by omega) (.cells #[.int .i64 (k : Int)] 3)) hg5 (by simp; omega) (fun a ha => by have := (ho.lt a ha).1; omega)
        refine ⟨⟨k + 1, A3, n1 + 1, c3, by go_num, by omega, by omega, by rw [Hpn.out, List.map_append]; exact ho5.setCell (p := ⟨w.heap.size + 1, 1, none⟩) (fun a ha => by have := (ho5.lt a ha).1; simp; omega) _, by simpa using hB5.set_ 1 (.slice A3 (n1 + 1) c3), hB50.far (p := ⟨w.heap.size + 1, 1, none⟩) (by simp) _, hb5.setCell (p := ⟨w.heap.size + 1, 1, none⟩) (by simp) _⟩, ?_⟩
        simp [intOf]; omega
      | false =>
        rw [hgd, hq, if_neg (by decide), List.append_nil] at hpn
        have hq2 : (x == no) = true := by cases x <;> cases no <;> first | rfl | cases hq
        have Hpn := Lib.hid hpn
        clear hpn hgd
        go_wp2
        refine ⟨⟨k + 1, A1, n1, c1, by go_num, by omega, by omega, by rw [Hpn.out]; exact ho, hB1, hB0, hb⟩, ?_⟩
        simp [intOf]; omega
    · have hkm : k = m := by omega
      subst hkm
      have p0 := hB1.cell 0
      have p1 := hB1.cell 1
      have p2 := hB1.cell 2
      have z0 := hB0.cell 0
      have z1 := hB0.cell 1
      have z2 := hB0.cell 2
      simp only [List.getElem?_toArray, List.getElem?_cons_succ, List.getElem?_cons_zero] at p0 p1 p2 z0 z1 z2
      have g0 := hB0.frozen 0
      have g1 := hB0.frozen 1
      have g2 := hB0.frozen 2
      go_wp2
      have hf := ((hB0.set_ 0 (.int .i64 1)).set_ 1 (.slice A1 n1 c1)).set_ 2 (.slice none 0 0)
      refine bodyPost_ret (res_from _ w.heap.size (1, (A1, n1, c1), (none, 0, 0)) _ rfl (PCell.of_blk (by simpa using hf))) rfl ?_
      have hA1 : ∀ a, A1 = some a → a.block ≠ w.heap.size := fun a ha => by have := (ho.lt a ha).1; omega
      refine ⟨_, rfl, ?_, ?_⟩
      · simp only [PatX]
        refine ⟨trivial, ⟨(((ho.setCell (p := ⟨w.heap.size, 0, none⟩) hA1 _).setCell (p := ⟨w.heap.size, 1, none⟩) hA1 _).setCell (p := ⟨w.heap.size, 2, none⟩) hA1 _).rd (by decide), by have := ho.len; simpa using this, fun a ha => by have := ho.lt a ha; exact ⟨by omega, by simp; omega⟩⟩, [], SlX.nil_ _ _ _, by simp only [PatsX]⟩
      · exact ((hb.setCell (p := ⟨w.heap.size, 0, none⟩) (Nat.le_refl _) _).setCell (p := ⟨w.heap.size, 1, none⟩) (Nat.le_refl _) _).setCell (p := ⟨w.heap.size, 2, none⟩) (Nat.le_refl _) _
end Go.Proofs.YtdnkignhenkamaaGreatDoor

/- -/
namespace Go.Proofs.YtdnkignhenkamaaGreatDoor
open Go.RowKit
theorem infoBoD : (Tryz.prog.info? 4).map (fun i => (i.zero, i.size, i.bytes)) = some (some (.bool false), 1, 1) := by kernel_rfl
theorem letter_part {c : UInt8} (h : pLetter c = true) : pPart c = true := by unfold pPart; rw [h]; rfl
theorem pName_some {ns : List (List UInt8)} {l r2 : List UInt8} {i : Nat} (h : pName ns l = some (i, r2)) : i < ns.length ∧ r2 = l.dropWhile pPart := by
  unfold pName at h
  split at h
  · cases h
  · split at h
    · cases h
    · rename_i j hj
      injection h with h
      injection h with h1 h2
      subst h1
      exact ⟨(List.findIdx?_eq_some_iff_getElem.1 hj).1, h2.symm⟩
theorem drop_less (q : UInt8 → Bool) (l : List UInt8) : (l.dropWhile q).length ≤ l.length := (List.dropWhile_suffix q).length_le
theorem name_less {ns : List (List UInt8)} {c : UInt8} {r r2 : List UInt8} {i : Nat} (h : pName ns (c :: r) = some (i, r2)) (hc : pLetter c = true) : r2.length < (c :: r).length := by
  rw [(pName_some h).2, List.dropWhile_cons, if_pos (letter_part hc), List.length_cons]
  exact Nat.lt_succ_of_le (drop_less _ _)
theorem listGo_cases {ns : List (List UInt8)} {f : Nat} {l : List UInt8} {acc : List Nat} {res : List Nat × List UInt8} (h : listGo ns f l acc = some res) :
    ∃ c r, skipB l = c :: r ∧ ((c.toNat = 93 ∧ res = (acc, r)) ∨ (c.toNat ≠ 93 ∧ pLetter c = true ∧ ∃ i r2 f', pName ns (c :: r) = some (i, r2) ∧ listGo ns f' r2 (i :: acc) = some res)) := by
  cases f with
  | zero => cases h
  | succ f =>
    rw [listGo] at h
    split at h
    · cases h
    · rename_i c r hs
      refine ⟨c, r, hs, ?_⟩
      split at h
      · rename_i h93
        injection h with h
        exact .inl ⟨h93, h.symm⟩
      · rename_i h93
        split at h
        · rename_i hl
          split at h
          · cases h
          · rename_i i r2 hp
            exact .inr ⟨h93, hl, i, r2, f, hp, h⟩
        · cases h
def marksP (acc : List Nat) (n : Nat) : List Bool := (List.range n).map fun i => acc.contains i
theorem marks_len (acc : List Nat) (n : Nat) : (marksP acc n).length = n := by simp [marksP]
theorem marks_nil (n : Nat) : marksP [] n = List.replicate n false := by
  unfold marksP
  rw [List.eq_replicate_iff]
  simp
theorem marks_set {acc : List Nat} {n i : Nat} : (marksP acc n).set i true = marksP (i :: acc) n := by
  apply List.ext_getElem (by simp [marksP])
  intro k h1 h2
  rw [List.getElem_set]
  simp only [marksP, List.getElem_map, List.getElem_range, List.contains_cons]
  by_cases e : i = k
  · subst e
    rw [if_pos rfl]; simp
  · rw [if_neg e, show (k == i) = false from beq_eq_false_iff_ne.2 (Ne.symm e), Bool.false_or]
theorem marks_at {acc : List Nat} {n i : Nat} (h : i < n) : (marksP acc n)[i]? = some (acc.contains i) := by
  unfold marksP
  rw [List.getElem?_map, List.getElem?_range h]; rfl
theorem pick_marks (acc : List Nat) (n : Nat) (no : Bool) : pickB (marksP acc n) no n = (List.range n).filter fun i => acc.contains i != no := by
  unfold pickB
  apply List.filter_congr
  intro j hj
  rw [List.getD_eq_getElem?_getD, marks_at (List.mem_range.1 hj)]; rfl
theorem made_noB (n : Nat) : (madeCells (Value.bool false).cells (n * 1)).toList = ((List.replicate n false).map encBo).flatten := by
  rw [Nat.mul_one]
  unfold madeCells
  rw [Array.toList_map, Array.toList_range]
  induction n with
  | zero => rfl
  | succ n ih =>
    rw [List.range_succ, List.map_append, ih, List.replicate_succ', List.map_append, List.flatten_append]
    congr 1
    simp [Value.cells, encBo, Nat.mod_one]
theorem encBo_ok (l : List Bool) : ∀ y ∈ l.map encBo, y.length = 1 ∧ ∀ u ∈ y, u.oneCell' = true := by
  intro y hy
  obtain ⟨x, _, rfl⟩ := List.mem_map.1 hy
  exact ⟨rfl, fun u hu => by simp [encBo] at hu; subst hu; rfl⟩
set_option maxRecDepth 100000 in
theorem res_list (w : World) (b : Nat) (v : Pv) (tmps : Array Value) (ht : tmps.getD 2 undef = .pointer (some ⟨b, 0, none⟩)) (hc : PCell w b v) : (results Tryz.f258 tmps).run Tryz.prog w = .ok (valPt v) w := by
  have ht' : tmps[2]?.getD undef = .pointer (some ⟨b, 0, none⟩) := by simpa [Array.getD_eq_getD_getElem?] using ht
  obtain ⟨h0, h1, h2⟩ := hc
  simp [results, Tryz.results258, go_sem, ht', h0, h1, h2, valPt]
theorem RS.belowB {w w' : World} {p B : Nat} {s : ByteArray} {A : Option Addr} {nn cn : Nat} {names : List (List UInt8)} {a d k : Nat} (h : RS w p s A nn cn names a d k) (hb : Below B w w') (hp : p < B) (hA : ∀ x, A = some x → x.block < B) : RS w' p s A nn cn names a d k :=
  ⟨(hb.block p hp).trans h.blk, h.nm.belowB hb hA, h.len, fun x hx => ⟨(h.off x hx).1, Nat.lt_of_lt_of_le (h.off x hx).2 hb.size⟩⟩
set_option maxRecDepth 100000 in
set_option maxHeartbeats 8000000 in
theorem jlist_any (p : Nat) (s : ByteArray) (A : Option Addr) (nn cn : Nat) (names : List (List UInt8)) (a d k f : Nat) (b : UInt8) (r1 rest : List UInt8) (acc : List Nat) (w : World)
    (h : RS w p s A nn cn names a d k) (hk : k < 512) (ha : a < s.size) (hs : s.size ≤ 1000000) (hnz : nn ≤ 1000000) (hsk : skipB (s.data.toList.drop (a + 1)) = b :: r1)
    (hL : listGo names f (if b.toNat = 94 then r1 else b :: r1) [] = some (acc, rest)) :
    Calls Tryz.prog 258 #[.pointer (some ⟨p, 0, none⟩)] w fun e w' => ∃ v x, e = .returned (valPt v) ∧ RS w' p s A nn cn names x d (k + 1) ∧ s.data.toList.drop x = rest ∧ x ≤ s.size ∧ w.grownBy w' (some p) ∧ PatX w' (fun b => w.heap.size ≤ b) (fromP nn acc (decide (b.toNat = 94))) v := by
  obtain ⟨j0, hj0, hy0, hy1, hy2⟩ := info_parts infoBoD
  have hpw := h.lt
  have hln := h.len
  have HAw := Lib.hid (fun x (hx : A = some x) => (h.off x hx).2)
  have HC := Lib.hid (fun W (h : RS W p s A nn cn names a d k) => jcounts_any p s A nn cn names a d k a W h hk)
  have HS := Lib.hid (fun x W (h : RS W p s A nn cn names x d (k + 1)) (hx : x ≤ s.size) => jsees_any p s A nn cn names x d (k + 1) W h hx hs)
  have HN := Lib.hid (fun x i0 rest W (h : RS W p s A nn cn names x d (k + 1)) (hx : x ≤ s.size) (hP : pName names (s.data.toList.drop x) = some (i0, rest)) => jname_any p s A nn cn names x d (k + 1) i0 rest W h hx hs hnz hP)
  have HF := Lib.hid (fun A' c' M no W (hA : Rd W 1 A' (M.map encBo)) (hm : M.length = nn) => jfrom_any nn A' nn c' M no W hA hm rfl hnz)
  have hw0 := h.below ((Below.refl w.heap.size w).alloc (Nat.le_refl _) (.cells #[.int .i64 0, .slice none 0 0, .slice none 0 0] 126))
  have cz := hw0.c1
  obtain ⟨L0, HL0⟩ : ∃ L, Hid ((if b.toNat = 94 then r1 else b :: r1) = L) := ⟨_, Lib.hid rfl⟩
  rw [HL0.out] at hL
  have HL := Lib.hid hL
  obtain ⟨q, Hq⟩ : ∃ q, Hid (decide (b.toNat = 94) = q) := ⟨_, Lib.hid rfl⟩
  have e94 : ((b.toNat : Int) == 94) = q := by rw [← Hq.out, Bool.eq_iff_iff, beq_iff_eq, decide_eq_true_iff]; omega
  have Hsk := Lib.hid hsk
  rw [Hq.out]
  clear hL hsk h
  go_enter Tryz.func258, Tryz.ntmps258
  go_wp2_with fail
  refine (HC.out _ hw0).mono ?_
  rintro e w1 ⟨rfl, hr, hg⟩
  clear cz
  have hB0 : Blk w1 w.heap.size 126 #[.int .i64 0, .slice none 0 0, .slice none 0 0] := (Blk.new w _ _).grown hg (fun e => by injection e with e; omega)
  have hg0 : w.grownBy w1 (some p) := only_trans (only_alloc (only_refl w _) _) hg
  have c1 := hr.c1
  have f1 := hr.f 1
  have hr2 := hr.setAt (a + 1)
  have ez : ((a + 1 : Nat) : Int) = (a : Int) + 1 := by omega
  rw [ez] at hr2
  have hB1 := hB0.far (p := ⟨p, 1, none⟩) (by simp; omega) (.int .i64 ((a : Int) + 1))
  have hg1 := only_setCell hg0 (p := ⟨p, 1, none⟩) (.inl rfl) (.int .i64 ((a : Int) + 1))
  have c5 := hr2.c5
  have h0 := HS.out (a + 1) _ hr2 (by omega)
  rw [Hsk.out, show headN (b :: r1) = b.toNat from rfl] at h0
  have HS1 := Lib.hid h0
  clear h0 hB0 hg0 hg hr hw0 HC ez
  go_wp2_with fail
  refine HS1.out.mono ?_
  rintro e w2 ⟨rfl, x, hr3, hd, hx, hg3⟩
  have hB2 := hB1.grown hg3 (fun e => by injection e with e; omega)
  have hg2 := only_trans hg1 hg3
  have Hd := Lib.hid hd
  clear hd c1 f1 c5 hr2 hB1 hg1 hg3 HS1
  go_upto_if 29 with fail
  go_cut [3] from 7 to 37 (fun v wx => v = .bool q ∧ ∃ x, RS wx p s A nn cn names x d (k + 1) ∧ Hid (s.data.toList.drop x = L0) ∧ x ≤ s.size ∧ w.grownBy wx (some p) ∧ Blk wx w.heap.size 126 #[.int .i64 0, .slice none 0 0, .slice none 0 0])
  case first =>
    cases q with
    | true =>
      have hb94 := of_decide_eq_true Hq.out
      have hxs : x < s.size := Nat.lt_of_not_le fun hle => by
        have h1 := Hd.out
        rw [drop_end s (by omega)] at h1
        cases h1
      have HD2 := Lib.hid (show s.data.toList.drop (x + 1) = L0 by
        obtain ⟨b', h1, _⟩ := byte_at s hxs
        have h2 := Hd.out
        rw [h1] at h2
        injection h2 with _ h2
        rw [h2, ← HL0.out, if_pos hb94])
      have c1 := hr3.c1
      have f1 := hr3.f 1
      have hr4 := hr3.setAt (x + 1)
      have ez : ((x + 1 : Nat) : Int) = (x : Int) + 1 := by omega
      rw [ez] at hr4
      clear ez hb94
      go_wp2_with fail
      go_meet
      exact ⟨rfl, x + 1, hr4, HD2, by omega, only_setCell hg2 (.inl rfl) _, hB2.far (p := ⟨p, 1, none⟩) (by simp; omega) _⟩
    | false =>
      have hb94 := of_decide_eq_false Hq.out
      have HD2 := Lib.hid (show s.data.toList.drop x = L0 by rw [Hd.out, ← HL0.out, if_neg hb94])
      clear hb94
      go_wp2_with fail
      go_meet
      exact ⟨rfl, x, hr3, HD2, hx, hg2, hB2⟩
  case rest =>
    clear hr3 Hd hx hg2 hB2 e94 Hsk
    obtain ⟨rfl, x, hr3, HD0, hx, hg2, hB2⟩ := hcut
    have c2 := hr3.c2
    have hbz := hB2.lt
    go_wp2_with (at_make; go_must (refine wpList_make_full _ rfl (.tmp 41) (.tmp 41) 256 rfl (w.heap.size + 1) 4 j0 (.bool false) 1 Tryz.underlying256 hj0 hy0 hy1 .i64 .i64 _ _ nn rfl rfl (by omega) (by omega) (by rw [hy2]; omega) (by unfold maxLen; omega) (by omega) ?_); intro w4 ho4 hg4)
    have HO : Own w4 (w.heap.size + 1) 4 1 (some ⟨wc.heap.size, 0, none⟩) nn nn ((marksP [] nn).map encBo) := ⟨by simp [marks_len], fun y hy => (encBo_ok _ y hy).1, by rw [marks_nil, ← made_noB]; exact ho4⟩
    have hg40 : w.grownBy w4 (some p) := only_below hg2 (below_new hg4)
    have hr4 := hr3.below (below_new hg4)
    have hB4 := hB2.below (below_new hg4)
    have HL2 : Hid (listGo names f (s.data.toList.drop x) [] = some (acc, rest)) := Lib.hid (by rw [HD0.out]; exact HL.out)
    clear ho4 hg4 hr3 hB2 hg2 c2 HL HD0 HL0 Hq
    generalize wc.heap.size = mb at HO hbz
    go_loopw [5, 6] (fun _ _ wr => ∃ (x : Nat) (acc0 : List Nat) (f0 : Nat), RS wr p s A nn cn names x d (k + 1) ∧ Hid (listGo names f0 (s.data.toList.drop x) acc0 = some (acc, rest)) ∧ x ≤ s.size ∧ w.grownBy wr (some p) ∧ Blk wr w.heap.size 126 #[.int .i64 0, .slice none 0 0, .slice none 0 0] ∧ Own wr (w.heap.size + 1) 4 1 (some ⟨mb, 0, none⟩) nn nn ((marksP acc0 nn).map encBo)) (fun _ _ wr => s.size - atOf wr p)
    case atStart => exact ⟨x, [], f, hr4, HL2, hx, hg40, hB4, HO⟩
    case round =>
      clear hr4 HL2 hx hg40 hB4 HO
      obtain ⟨y, acc0, f0, hr, HG, hy, hg, hB, ho⟩ := hrel
      have Hat := Lib.hid hr.atOf
      obtain ⟨c, r, hsk2, hcs⟩ := listGo_cases HG.out
      have Hcs := Lib.hid hcs
      have hly : (c :: r).length ≤ s.size - y := by
        rw [← hsk2]
        refine Nat.le_trans (drop_less _ _) ?_
        rw [List.length_drop, size_data]; exact Nat.le_refl _
      have c5 := hr.c5
      have h0 := HS.out y _ hr hy
      rw [hsk2, show headN (c :: r) = c.toNat from rfl] at h0
      have HS2 := Lib.hid h0
      clear h0 hsk2 hcs HG
      go_wp2_with fail
      refine HS2.out.mono ?_
      rintro e w5 ⟨rfl, x1, hr5, hd5, hx1, hg5⟩
      have hxs : x1 < s.size := Nat.lt_of_not_le fun hle => by
        rw [drop_end s (by omega)] at hd5
        cases hd5
      have hl1 : (c :: r).length = s.size - x1 := by rw [← hd5, List.length_drop, size_data]
      have t1 : decide (s.size ≤ x1) = false := decide_eq_false (by omega)
      have Hd5 := Lib.hid hd5
      have c0 := hr5.c0
      have c1 := hr5.c1
      have hB5 := hB.grown hg5 (fun e => by injection e with e; omega)
      have ho5 := ho.grown hg5 (fun a ha e => by injection ha with ha; subst ha; injection e with e; simp only at e; omega)
      have hgg := only_trans hg hg5
      clear hr c5 hg hB ho HS2 hd5 hg5
      go_wp2_with fail
      go_quiet (fail)
      rcases Hcs.out with ⟨h93, hres⟩ | ⟨h93, hlet, i0, r2, f', hp, hL2⟩
      · have t2 : ((c.toNat : Int) == 93) = true := by rw [beq_iff_eq]; omega
        have hxy : acc = acc0 ∧ rest = r := by injection hres with h1 h2; exact ⟨h1, h2⟩
        obtain ⟨rfl, rfl⟩ := hxy
        have HD2 := Lib.hid (show s.data.toList.drop (x1 + 1) = rest by
          obtain ⟨b', h1, _⟩ := byte_at s hxs
          have h2 := Hd5.out
          rw [h1] at h2
          injection h2)
        have f1 := hr5.f 1
        have hr6 := (hr5.drewN nq).setAt (x1 + 1)
        have ez : ((x1 + 1 : Nat) : Int) = (x1 : Int) + 1 := by omega
        rw [ez] at hr6
        have c2 := hr6.c2
        have ho6 : Own ((w5.drewN nq).setCell ⟨p, 1, none⟩ (.int .i64 ((x1 : Int) + 1))) (w.heap.size + 1) 4 1 (some ⟨mb, 0, none⟩) nn nn ((marksP acc nn).map encBo) := (ho5.drewN nq).setCell (p := ⟨p, 1, none⟩) (fun a ha e => by injection ha with ha; subst ha; simp only at e; omega) _
        have hB6 : Blk ((w5.drewN nq).setCell ⟨p, 1, none⟩ (.int .i64 ((x1 : Int) + 1))) w.heap.size 126 #[.int .i64 0, .slice none 0 0, .slice none 0 0] := (hB5.drewN nq).far (p := ⟨p, 1, none⟩) (by simp; omega) _
        have hg6 : w.grownBy ((w5.drewN nq).setCell ⟨p, 1, none⟩ (.int .i64 ((x1 : Int) + 1))) (some p) := only_setCell (only_drewN hgg nq) (p := ⟨p, 1, none⟩) (.inl rfl) _
        have HC2 := Lib.hid (HF.out _ nn (marksP acc nn) q _ (ho6.rd (by decide)) (marks_len _ _))
        clear ez Hcs hres hly hl1 Hat ho5 hB5 hgg hr5
        go_wp2_with fail
        refine HC2.out.mono ?_
        rintro e w7 ⟨v, rfl, hpat, hb7⟩
        have hB7 := hB6.below hb7
        have hr7 := hr6.below hb7
        have hg7 := only_below hg6 hb7
        have hz7 := hB6.lt
        rw [pick_marks] at hpat
        have Hpat := Lib.hid hpat
        have z0 := hB7.cell 0
        have z1 := hB7.cell 1
        have z2 := hB7.cell 2
        simp only [List.getElem?_toArray, List.getElem?_cons_succ, List.getElem?_cons_zero] at z0 z1 z2
        have g0 := hB7.frozen 0
        have g1 := hB7.frozen 1
        have g2 := hB7.frozen 2
        clear HC2 hpat c2 hr6 ho6 hB6 hg6
        obtain ⟨v0, ⟨A1, n1, c1'⟩, ⟨A2, n2, c2'⟩⟩ := v
        simp only [valPt]
        go_wp2
        have hf := ((hB7.set_ 0 (.int .i64 (v0 : Int))).set_ 1 (.slice A1 n1 c1')).set_ 2 (.slice A2 n2 c2')
        have hg8 : w7.grownBy (((w7.setCell ⟨w.heap.size, 0, none⟩ (.int .i64 (v0 : Int))).setCell ⟨w.heap.size, 1, none⟩ (.slice A1 n1 c1')).setCell ⟨w.heap.size, 2, none⟩ (.slice A2 n2 c2')) (some w.heap.size) := only_setCell (only_setCell (only_setCell (only_refl _ _) (p := ⟨w.heap.size, 0, none⟩) (.inl rfl) _) (p := ⟨w.heap.size, 1, none⟩) (.inl rfl) _) (p := ⟨w.heap.size, 2, none⟩) (.inl rfl) _
        have hb8 : Below w.heap.size w7 (((w7.setCell ⟨w.heap.size, 0, none⟩ (.int .i64 (v0 : Int))).setCell ⟨w.heap.size, 1, none⟩ (.slice A1 n1 c1')).setCell ⟨w.heap.size, 2, none⟩ (.slice A2 n2 c2')) := (((Below.refl _ _).setCell (p := ⟨w.heap.size, 0, none⟩) (Nat.le_refl _) _).setCell (p := ⟨w.heap.size, 1, none⟩) (Nat.le_refl _) _).setCell (p := ⟨w.heap.size, 2, none⟩) (Nat.le_refl _) _
        refine bodyPost_ret (res_list _ w.heap.size (v0, (A1, n1, c1'), (A2, n2, c2')) _ rfl (PCell.of_blk (by simpa using hf))) rfl ?_
        refine ⟨_, x1 + 1, rfl, hr7.belowB hb8 hpw HAw.out, HD2.out, by omega, only_setCell (only_setCell (only_setCell hg7 (p := ⟨w.heap.size, 0, none⟩) (.inr (Nat.le_refl _)) _) (p := ⟨w.heap.size, 1, none⟩) (.inr (Nat.le_refl _)) _) (p := ⟨w.heap.size, 2, none⟩) (.inr (Nat.le_refl _)) _, ?_⟩
        exact PatX.keep ((KeepX.grown hg8 (fun r hr h => by injection hr with hr; subst hr; omega)).trans (KeepX.same (fun b h _ => by show w.heap.size ≤ b; omega))) Hpat.out
      · have t2 : ((c.toNat : Int) == 93) = false := by rw [beq_eq_false_iff_ne]; omega
        have hi0 := (pName_some hp).1
        rw [hln] at hi0
        have hlr := name_less hp hlet
        have h1 := jletter_b c (w5.drewN nq)
        rw [hlet] at h1
        have HLt := Lib.hid h1
        have HN2 := Lib.hid (HN.out x1 i0 r2 _ (hr5.drewN nq) hx1 (by rw [Hd5.out]; exact hp))
        clear h1 hp Hcs
        have HLr := Lib.hid hL2
        clear hL2
        go_wp2_with fail
        refine HLt.out.mono ?_
        rintro e w6 ⟨rfl, rfl⟩
        go_wp2_with fail
        refine HN2.out.mono ?_
        rintro e w6 ⟨rfl, x2, hr6, hd6, hx2, hg6⟩
        have c5 := hr6.c5
        have ho6 := (ho5.drewN nq).grown hg6 (fun a ha e => by injection ha with ha; subst ha; injection e with e; simp only at e; omega)
        have hB6 := (hB5.drewN nq).grown hg6 (fun e => by injection e with e; omega)
        have hst := fun v => ho6.stored (k := i0) (j := 0) (x := encBo (acc0.contains i0)) (by rw [List.getElem?_map, marks_at hi0]; rfl) (by omega) v
        have hca := ho6.cell (k := i0) (j := 0) (x := encBo (acc0.contains i0)) (u := .bool (acc0.contains i0)) (by rw [List.getElem?_map, marks_at hi0]; rfl) rfl
        have hfz := ho6.frozen i0
        simp only [Nat.mul_one, Nat.add_zero] at hst hca
        have HS6 : Hid (Own (w6.setCell ⟨mb, i0, none⟩ (.bool true)) (w.heap.size + 1) 4 1 (some ⟨mb, 0, none⟩) nn nn ((marksP (i0 :: acc0) nn).map encBo)) := Lib.hid (by
          rw [← marks_set, List.map_set]
          exact hst _)
        have hb7 : Below w.heap.size w6 (w6.setCell ⟨mb, i0, none⟩ (.bool true)) := (Below.refl _ _).setCell (p := ⟨mb, i0, none⟩) (by simp; omega) _
        have hr7 := hr6.belowB hb7 hpw HAw.out
        have hB7 := hB6.far (p := ⟨mb, i0, none⟩) (by simp; omega) (.bool true)
        have hg7 := only_setCell (only_trans (only_drewN hgg nq) hg6) (p := ⟨mb, i0, none⟩) (.inr (by simp; omega)) (.bool true)
        have hl2 : r2.length = s.size - x2 := by rw [← hd6, List.length_drop, size_data]
        have Hm2 := Lib.hid (show s.size - x2 < s.size - y by omega)
        have HG2 : Hid (listGo names f' (s.data.toList.drop x2) (i0 :: acc0) = some (acc, rest)) := Lib.hid (by rw [hd6]; exact HLr.out)
        have hi1 : (i0 : Int) < (nn : Int) := by omega
        have hi2 : (0 : Int) ≤ (i0 : Int) := by omega
        clear hst HLr hd6 hl2 hly hl1 hlr hi0 HLt HN2 hg6 hB6
        go_wp2
        refine ⟨⟨x2, i0 :: acc0, f', hr7, HG2, hx2, hg7, hB7, HS6.out⟩, ?_⟩
        rw [hr7.atOf, Hat.out]; exact Hm2.out
end Go.Proofs.YtdnkignhenkamaaGreatDoor

/- -/
namespace Go.Proofs.YtdnkignhenkamaaGreatDoor
open Go.RowKit
theorem atomP_cases {ns : List (List UInt8)} {f d k k' : Nat} {c : UInt8} {r rest : List UInt8} {pat : Pat} (h : atomP ns (f + 1) d c r k = some (pat, rest, k')) :
    k < 512 ∧ ((c.toNat = 40 ∧ d < 32 ∧ ∃ c2, patP ns f (d + 1) r (k + 1) = some (pat, c2 :: rest, k')) ∨
      (c.toNat = 91 ∧ k' = k + 1 ∧ ∃ b r1 acc, skipB r = b :: r1 ∧ listGo ns f (if b.toNat = 94 then r1 else b :: r1) [] = some (acc, rest) ∧ pat = fromP ns.length acc (decide (b.toNat = 94))) ∨
      (c.toNat = 46 ∧ pat = fromP ns.length [] true ∧ rest = r ∧ k' = k + 1) ∨
      (c.toNat ≠ 40 ∧ c.toNat ≠ 91 ∧ c.toNat ≠ 46 ∧ k' = k + 1 ∧ ∃ i, pName ns (c :: r) = some (i, rest) ∧ pat = .node 1 [i] [])) := by
  rw [atomP] at h
  split at h
  · cases h
  · rename_i hk
    refine ⟨by omega, ?_⟩
    split at h
    · rename_i h40
      split at h
      · cases h
      · rename_i hd
        split at h
        · cases h
        · cases h
        · rename_i p c2 l1 k1 hp
          injection h with h
          injection h with e1 e2
          injection e2 with e2 e3
          subst e1 e2 e3
          exact .inl ⟨h40, by omega, c2, hp⟩
    · rename_i h40
      split at h
      · rename_i h91
        split at h
        · cases h
        · rename_i b r1 hs
          split at h
          · cases h
          · rename_i acc l1 hl
            injection h with h
            injection h with e1 e2
            injection e2 with e2 e3
            subst e1 e2 e3
            exact .inr (.inl ⟨h91, rfl, b, r1, acc, hs, hl, rfl⟩)
      · rename_i h91
        split at h
        · rename_i h46
          injection h with h
          injection h with e1 e2
          injection e2 with e2 e3
          subst e1 e2 e3
          exact .inr (.inr (.inl ⟨h46, rfl, rfl, rfl⟩))
        · rename_i h46
          split at h
          · cases h
          · rename_i i l1 hp
            injection h with h
            injection h with e1 e2
            injection e2 with e2 e3
            subst e1 e2 e3
            exact .inr (.inr (.inr ⟨h40, h91, h46, rfl, i, hp, rfl⟩))
def RdPost (w : World) (p : Nat) (s : ByteArray) (A : Option Addr) (nn cn : Nat) (names : List (List UInt8)) (d : Nat) (pat : Pat) (rest : List UInt8) (k' : Nat) (e : Ending) (w' : World) : Prop :=
  ∃ v x, e = .returned (valPt v) ∧ RS w' p s A nn cn names x d k' ∧ s.data.toList.drop x = rest ∧ x ≤ s.size ∧ w.grownBy w' (some p) ∧ PatX w' (fun b => w.heap.size ≤ b) pat v
theorem pt_end {w w7 : World} {p B : Nat} {s : ByteArray} {A : Option Addr} {nn cn : Nat} {names : List (List UInt8)} {x d k : Nat} {a0 a1 a2 : Value} {pat : Pat} (v : Pv) (hB7 : Blk w7 w.heap.size 126 #[a0, a1, a2])
    (hr7 : RS w7 p s A nn cn names x d k) (hpw : p < w.heap.size) (hA : ∀ x, A = some x → x.block < w.heap.size) (hg7 : w.grownBy w7 (some p)) (hz : w.heap.size < B) (hpat : PatX w7 (fun b => B ≤ b) pat v) :
    Blk (((w7.setCell ⟨w.heap.size, 0, none⟩ (.int .i64 (v.1 : Int))).setCell ⟨w.heap.size, 1, none⟩ (.slice v.2.1.1 v.2.1.2.1 v.2.1.2.2)).setCell ⟨w.heap.size, 2, none⟩ (.slice v.2.2.1 v.2.2.2.1 v.2.2.2.2)) w.heap.size 126 #[.int .i64 (v.1 : Int), .slice v.2.1.1 v.2.1.2.1 v.2.1.2.2, .slice v.2.2.1 v.2.2.2.1 v.2.2.2.2] ∧
    RS (((w7.setCell ⟨w.heap.size, 0, none⟩ (.int .i64 (v.1 : Int))).setCell ⟨w.heap.size, 1, none⟩ (.slice v.2.1.1 v.2.1.2.1 v.2.1.2.2)).setCell ⟨w.heap.size, 2, none⟩ (.slice v.2.2.1 v.2.2.2.1 v.2.2.2.2)) p s A nn cn names x d k ∧
    w.grownBy (((w7.setCell ⟨w.heap.size, 0, none⟩ (.int .i64 (v.1 : Int))).setCell ⟨w.heap.size, 1, none⟩ (.slice v.2.1.1 v.2.1.2.1 v.2.1.2.2)).setCell ⟨w.heap.size, 2, none⟩ (.slice v.2.2.1 v.2.2.2.1 v.2.2.2.2)) (some p) ∧
    PatX (((w7.setCell ⟨w.heap.size, 0, none⟩ (.int .i64 (v.1 : Int))).setCell ⟨w.heap.size, 1, none⟩ (.slice v.2.1.1 v.2.1.2.1 v.2.1.2.2)).setCell ⟨w.heap.size, 2, none⟩ (.slice v.2.2.1 v.2.2.2.1 v.2.2.2.2)) (fun b => w.heap.size ≤ b) pat v := by
  obtain ⟨v0, ⟨A1, n1, c1'⟩, ⟨A2, n2, c2'⟩⟩ := v
  have hf := ((hB7.set_ 0 (.int .i64 (v0 : Int))).set_ 1 (.slice A1 n1 c1')).set_ 2 (.slice A2 n2 c2')
  have hg8 : w7.grownBy (((w7.setCell ⟨w.heap.size, 0, none⟩ (.int .i64 (v0 : Int))).setCell ⟨w.heap.size, 1, none⟩ (.slice A1 n1 c1')).setCell ⟨w.heap.size, 2, none⟩ (.slice A2 n2 c2')) (some w.heap.size) := only_setCell (only_setCell (only_setCell (only_refl _ _) (p := ⟨w.heap.size, 0, none⟩) (.inl rfl) _) (p := ⟨w.heap.size, 1, none⟩) (.inl rfl) _) (p := ⟨w.heap.size, 2, none⟩) (.inl rfl) _
  have hb8 : Below w.heap.size w7 (((w7.setCell ⟨w.heap.size, 0, none⟩ (.int .i64 (v0 : Int))).setCell ⟨w.heap.size, 1, none⟩ (.slice A1 n1 c1')).setCell ⟨w.heap.size, 2, none⟩ (.slice A2 n2 c2')) := (((Below.refl _ _).setCell (p := ⟨w.heap.size, 0, none⟩) (Nat.le_refl _) _).setCell (p := ⟨w.heap.size, 1, none⟩) (Nat.le_refl _) _).setCell (p := ⟨w.heap.size, 2, none⟩) (Nat.le_refl _) _
  refine ⟨by simpa using hf, hr7.belowB hb8 hpw hA, only_setCell (only_setCell (only_setCell hg7 (p := ⟨w.heap.size, 0, none⟩) (.inr (Nat.le_refl _)) _) (p := ⟨w.heap.size, 1, none⟩) (.inr (Nat.le_refl _)) _) (p := ⟨w.heap.size, 2, none⟩) (.inr (Nat.le_refl _)) _, ?_⟩
  exact PatX.keep ((KeepX.grown hg8 (fun r hr h => by injection hr with hr; subst hr; omega)).trans (KeepX.same (fun b h _ => by show w.heap.size ≤ b; omega))) hpat
set_option maxRecDepth 100000 in
theorem res_atom (w : World) (b : Nat) (v : Pv) (tmps : Array Value) (ht : tmps.getD 2 undef = .pointer (some ⟨b, 0, none⟩)) (hc : PCell w b v) : (results Tryz.f235 tmps).run Tryz.prog w = .ok (valPt v) w := by
  have ht' : tmps[2]?.getD undef = .pointer (some ⟨b, 0, none⟩) := by simpa [Array.getD_eq_getD_getElem?] using ht
  obtain ⟨h0, h1, h2⟩ := hc
  simp [results, Tryz.results235, go_sem, ht', h0, h1, h2, valPt]
end Go.Proofs.YtdnkignhenkamaaGreatDoor

/- -/
namespace Go.Proofs.YtdnkignhenkamaaGreatDoor
open Go.RowKit
theorem opsGo_cases {f k k2 : Nat} {p q : Pat} {l l2 : List UInt8} (h : opsGo f p l k = some (q, l2, k2)) :
    (skipB l = [] ∧ q = p ∧ l2 = [] ∧ k2 = k) ∨ ∃ c r, skipB l = c :: r ∧ ((pOper c = 0 ∧ q = p ∧ l2 = c :: r ∧ k2 = k) ∨ (pOper c ≠ 0 ∧ k < 512 ∧ ∃ f', opsGo f' (.node (pOper c) [] [p]) r (k + 1) = some (q, l2, k2))) := by
  cases f with
  | zero => cases h
  | succ f =>
    rw [opsGo] at h
    split at h
    · rename_i hs
      injection h with h
      injection h with e1 e2
      injection e2 with e2 e3
      exact .inl ⟨hs, e1.symm, e2.symm, e3.symm⟩
    · rename_i c r hs
      refine .inr ⟨c, r, hs, ?_⟩
      split at h
      · rename_i h0
        injection h with h
        injection h with e1 e2
        injection e2 with e2 e3
        exact .inl ⟨h0, e1.symm, e2.symm, e3.symm⟩
      · rename_i h0
        split at h
        · cases h
        · rename_i hk
          exact .inr ⟨h0, by omega, f, h⟩
theorem branchP_cases {ns : List (List UInt8)} {f d k k' : Nat} {acc : List Pat} {pat : Pat} {l rest : List UInt8} (h : branchP ns f d l k acc = some (pat, rest, k')) :
    (skipB l = [] ∧ pat = seqOf acc ∧ rest = [] ∧ k' = k) ∨ ∃ c r, skipB l = c :: r ∧ ((pBegins c = false ∧ pat = seqOf acc ∧ rest = c :: r ∧ k' = k) ∨
      (pBegins c = true ∧ ∃ f' p l1 k1 q l2 k2, f = f' + 1 ∧ atomP ns f' d c r k = some (p, l1, k1) ∧ opsGo f' p l1 k1 = some (q, l2, k2) ∧ branchP ns f' d l2 k2 (acc ++ [q]) = some (pat, rest, k'))) := by
  cases f with
  | zero => rw [branchP] at h; cases h
  | succ f =>
    rw [branchP] at h
    split at h
    · rename_i hs
      injection h with h
      injection h with e1 e2
      injection e2 with e2 e3
      exact .inl ⟨hs, e1.symm, e2.symm, e3.symm⟩
    · rename_i c r hs
      refine .inr ⟨c, r, hs, ?_⟩
      split at h
      · rename_i hb
        refine .inr ⟨hb, f, ?_⟩
        split at h
        · cases h
        · rename_i p l1 k1 ha
          split at h
          · cases h
          · rename_i q l2 k2 ho
            exact ⟨p, l1, k1, q, l2, k2, rfl, ha, ho, h⟩
      · rename_i hb
        injection h with h
        injection h with e1 e2
        injection e2 with e2 e3
        exact .inl ⟨by simpa using hb, e1.symm, e2.symm, e3.symm⟩
theorem altsP_cases {ns : List (List UInt8)} {f d k k' : Nat} {acc : List Pat} {pat : Pat} {l rest : List UInt8} (h : altsP ns f d l k acc = some (pat, rest, k')) :
    (skipB l = [] ∧ pat = altOf acc ∧ rest = [] ∧ k' = k) ∨ ∃ c r, skipB l = c :: r ∧ ((c.toNat = 124 ∧ k < 512 ∧ ∃ f' p l1 k1, f = f' + 1 ∧ branchP ns f' d r (k + 1) [] = some (p, l1, k1) ∧ altsP ns f' d l1 k1 (acc ++ [p]) = some (pat, rest, k')) ∨
      (c.toNat = 41 ∧ 0 < d ∧ pat = altOf acc ∧ rest = c :: r ∧ k' = k)) := by
  cases f with
  | zero => rw [altsP] at h; cases h
  | succ f =>
    rw [altsP] at h
    split at h
    · rename_i hs
      injection h with h
      injection h with e1 e2
      injection e2 with e2 e3
      exact .inl ⟨hs, e1.symm, e2.symm, e3.symm⟩
    · rename_i c r hs
      refine .inr ⟨c, r, hs, ?_⟩
      split at h
      · rename_i hc
        split at h
        · cases h
        · rename_i hk
          split at h
          · cases h
          · rename_i p l1 k1 hb
            exact .inl ⟨hc, by omega, f, p, l1, k1, rfl, hb, h⟩
      · split at h
        · rename_i hc
          injection h with h
          injection h with e1 e2
          injection e2 with e2 e3
          exact .inr ⟨hc.1, hc.2, e1.symm, e2.symm, e3.symm⟩
        · cases h
theorem patP_cases {ns : List (List UInt8)} {f d k k' : Nat} {pat : Pat} {l rest : List UInt8} (h : patP ns f d l k = some (pat, rest, k')) :
    ∃ f' p l1 k1, f = f' + 1 ∧ branchP ns f' d l k [] = some (p, l1, k1) ∧ altsP ns f' d l1 k1 [p] = some (pat, rest, k') := by
  cases f with
  | zero => rw [patP] at h; cases h
  | succ f =>
    rw [patP] at h
    split at h
    · cases h
    · rename_i p l1 k1 hb
      exact ⟨f, p, l1, k1, rfl, hb, h⟩
def UpTo (k k' : Nat) : Prop := k ≤ k' ∧ (k ≤ 512 → k' ≤ 512)
theorem UpTo.refl (k : Nat) : UpTo k k := ⟨Nat.le_refl _, id⟩
theorem UpTo.trans {a b c : Nat} (h : UpTo a b) (k : UpTo b c) : UpTo a c := ⟨Nat.le_trans h.1 k.1, fun q => k.2 (h.2 q)⟩
theorem UpTo.one {k : Nat} (h : k < 512) : UpTo k (k + 1) := ⟨Nat.le_succ _, fun _ => h⟩
theorem ops_up : ∀ (f : Nat) {k k2 : Nat} {p q : Pat} {l l2 : List UInt8}, opsGo f p l k = some (q, l2, k2) → UpTo k k2
  | 0, _, _, _, _, _, _, h => by rw [opsGo] at h; cases h
  | f + 1, k, k2, p, q, l, l2, h => by
    rw [opsGo] at h
    split at h
    · injection h with h; injection h with _ h; injection h with _ h; subst h; exact UpTo.refl _
    · split at h
      · injection h with h; injection h with _ h; injection h with _ h; subst h; exact UpTo.refl _
      · split at h
        · cases h
        · rename_i hk
          exact (UpTo.one (by omega)).trans (ops_up f h)
theorem parts_up (ns : List (List UInt8)) : ∀ f : Nat,
    (∀ {d k k' : Nat} {pat : Pat} {l rest : List UInt8}, patP ns f d l k = some (pat, rest, k') → UpTo k k') ∧
    (∀ {d k k' : Nat} {acc : List Pat} {pat : Pat} {l rest : List UInt8}, altsP ns f d l k acc = some (pat, rest, k') → UpTo k k') ∧
    (∀ {d k k' : Nat} {acc : List Pat} {pat : Pat} {l rest : List UInt8}, branchP ns f d l k acc = some (pat, rest, k') → UpTo k k') ∧
    (∀ {d k k' : Nat} {c : UInt8} {pat : Pat} {r rest : List UInt8}, atomP ns f d c r k = some (pat, rest, k') → k < 512 ∧ UpTo (k + 1) k')
  | 0 => ⟨fun h => (by rw [patP] at h; cases h), fun h => (by rw [altsP] at h; cases h), fun h => (by rw [branchP] at h; cases h), fun h => (by rw [atomP] at h; cases h)⟩
  | f + 1 => by
    obtain ⟨i1, i2, i3, i4⟩ := parts_up ns f
    refine ⟨fun h => ?_, fun h => ?_, fun h => ?_, fun h => ?_⟩
    · obtain ⟨f', p, l1, k1, e, hb, ha⟩ := patP_cases h
      injection e with e
      subst e
      exact (i3 hb).trans (i2 ha)
    · rcases altsP_cases h with ⟨_, _, _, rfl⟩ | ⟨c, r, _, ⟨_, hk, f', p, l1, k1, e, hb, ha⟩ | ⟨_, _, _, _, rfl⟩⟩
      · exact UpTo.refl _
      · injection e with e
        subst e
        exact (UpTo.one hk).trans ((i3 hb).trans (i2 ha))
      · exact UpTo.refl _
    · rcases branchP_cases h with ⟨_, _, _, rfl⟩ | ⟨c, r, _, ⟨_, _, _, rfl⟩ | ⟨_, f', p, l1, k1, q, l2, k2, e, ha, ho, hb⟩⟩
      · exact UpTo.refl _
      · exact UpTo.refl _
      · injection e with e
        subst e
        obtain ⟨hk, hu⟩ := i4 ha
        exact (UpTo.one hk).trans (hu.trans ((ops_up _ ho).trans (i3 hb)))
    · obtain ⟨hk, hcs⟩ := atomP_cases h
      refine ⟨hk, ?_⟩
      rcases hcs with ⟨_, _, c2, hp⟩ | ⟨_, rfl, _⟩ | ⟨_, _, _, rfl⟩ | ⟨_, _, _, rfl, _⟩
      · exact i1 hp
      · exact UpTo.refl _
      · exact UpTo.refl _
      · exact UpTo.refl _
end Go.Proofs.YtdnkignhenkamaaGreatDoor

/- -/
namespace Go.Proofs.YtdnkignhenkamaaGreatDoor
open Go.RowKit
def nmOk (l : List UInt8) : Bool := l.all pPart && (l.head?.map pLetter).getD false && decide (l.length ≤ 32)
def nmsOk (ns : List (List UInt8)) : Bool := decide (ns.length ≤ 64) && ns.all nmOk && decide ns.Nodup
theorem nm_part {l : List UInt8} (h : nmOk l = true) {b : UInt8} (hb : b ∈ l) : pPart b = true := by
  unfold nmOk at h
  simp only [Bool.and_eq_true, List.all_eq_true] at h
  exact h.1.1 b hb
theorem nm_letter {b : UInt8} {r : List UInt8} (h : nmOk (b :: r) = true) : pLetter b = true := by
  unfold nmOk at h
  simp only [Bool.and_eq_true, List.head?_cons, Option.map_some, Option.getD_some] at h
  exact h.1.2
theorem nm_len {l : List UInt8} (h : nmOk l = true) : 1 ≤ l.length ∧ l.length ≤ 32 := by
  unfold nmOk at h
  simp only [Bool.and_eq_true, decide_eq_true_iff] at h
  refine ⟨?_, h.2⟩
  cases l with
  | nil => simp at h
  | cons b r => simp
set_option maxRecDepth 100000 in
set_option maxHeartbeats 4000000 in
theorem jName_ok (s : ByteArray) (w : World) (h : nmOk s.data.toList = true) : Calls Tryz.prog 142 #[.string s] w fun e w' => e = .returned (.bool true) ∧ w = w' := by
  have HP := Lib.hid (fun b hb => nm_part h (b := b) hb)
  have HL := Lib.hid (fun b r (e : s.data.toList = b :: r) => nm_letter (b := b) (r := r) (e ▸ h))
  have hl := nm_len h
  rw [size_data] at hl
  clear h
  go_enter Tryz.func142, Tryz.ntmps142
  go_wp2
  go_loopw [3] (fun v wr => ∃ i : Nat, v = .int .i64 i ∧ i ≤ s.size ∧ wr = w) (fun v _ => s.size - (intOf v).toNat)
  case atStart => exact ⟨0, rfl, by omega, rfl⟩
  case round =>
    obtain ⟨i, rfl, hi, rfl⟩ := hrel
    by_cases hlt : i < s.size
    · obtain ⟨b, hd, hidx⟩ := byte_at s hlt
      have hpb := HP.out b (List.mem_of_mem_drop (by rw [hd]; simp))
      have h1 := jpart_b b wr
      rw [hpb] at h1
      have HJ := Lib.hid h1
      clear h1 hpb
      by_cases h0 : i = 0
      · subst h0
        have h2 := jletter_b b wr
        rw [HL.out b _ (by simpa using hd)] at h2
        have HK := Lib.hid h2
        have hidx0 : ∀ W, (Instr.index 9 (.string s) (.int .i64 0)).run Tryz.prog W = .ok (.int .u8 (b.toNat : Int)) W := hidx
        clear h2 hd hidx
        go_wp2_with fail
        refine HJ.out.mono ?_
        rintro e w2 ⟨rfl, rfl⟩
        go_wp2_with fail
        refine HK.out.mono ?_
        rintro e w2 ⟨rfl, rfl⟩
        go_wp2
        go_roundw
        case rel => exact ⟨1, by go_num, by omega, by first | rfl | trivial⟩
        case measure => simp [intOf]; omega
      · have t0 : ((i : Int) == 0) = false := by rw [beq_eq_false_iff_ne]; omega
        clear hd
        go_wp2_with fail
        refine HJ.out.mono ?_
        rintro e w2 ⟨rfl, rfl⟩
        go_wp2
        go_roundw
        case rel => exact ⟨i + 1, by go_num, by omega, by first | rfl | trivial⟩
        case measure => simp [intOf]; omega
    · obtain rfl : i = s.size := by omega
      have t1 : decide (1 ≤ s.size) = true := decide_eq_true hl.1
      have t2 : decide ((s.size : Int) ≤ 32) = true := decide_eq_true (by omega)
      go_wp2
      go_ret
      exact ⟨by first | rfl | exact congrArg (fun b => Ending.returned (.bool b)) t2, rfl⟩
set_option maxRecDepth 100000 in
set_option maxHeartbeats 4000000 in
theorem jNames_ok (A : Option Addr) (n c : Nat) (ns : List (List UInt8)) (w : World) (hA : Rd w 1 A (ns.map encNm)) (hl : ns.length = n) (h : nmsOk ns = true) : Calls Tryz.prog 113 #[.slice A n c] w fun e w' => e = .returned (.bool true) ∧ ∃ q, w' = w.drewN q := by
  unfold nmsOk at h
  simp only [Bool.and_eq_true, decide_eq_true_iff, List.all_eq_true] at h
  obtain ⟨⟨h64, hnm⟩, hnd⟩ := h
  have HN := Lib.hid (fun y (hy : y ∈ ns) W => jName_ok (bytesOf y) W (by rw [bytesOf_list]; exact hnm y hy))
  have HD := Lib.hid (fun i k x y (hi : ns[i]? = some x) (hk : ns[k]? = some y) (hlt : k < i) => (fun e => by
    obtain ⟨h1, h2⟩ := List.getElem?_eq_some_iff.1 hi
    obtain ⟨h3, h4⟩ := List.getElem?_eq_some_iff.1 hk
    have := (List.nodup_iff_pairwise_ne.1 hnd)
    rw [List.pairwise_iff_getElem] at this
    exact this k i h3 h1 hlt (by rw [h4, h2, e]) : y ≠ x))
  rw [hl] at h64
  clear hnm hnd
  have Hl := Lib.hid hl
  have h65 : ¬ 64 < n := by omega
  clear hl h64
  go_enter Tryz.func113, Tryz.ntmps113
  go_wp2
  go_loopw [3, 4] (fun v _ wr => ∃ i q : Nat, v = .int .i64 i ∧ i ≤ n ∧ wr = w.drewN q) (fun v _ _ => n - (intOf v).toNat)
  case atStart => exact ⟨0, 0, rfl, by omega, rfl⟩
  case round =>
    obtain ⟨i, q, rfl, hi, rfl⟩ := hrel
    have hA1 := hA
    by_cases hlt : i < n
    · obtain ⟨x, Hx⟩ : ∃ x, Hid (ns[i]? = some x) := ⟨_, Lib.hid (List.getElem?_eq_getElem (by have := Hl.out; omega))⟩
      obtain ⟨b, off, rfl, hc⟩ := hA1.atS Hx.out
      have HJ := Lib.hid (HN.out x (List.mem_of_getElem? Hx.out) (w.drewN q))
      go_wp2_with fail
      refine HJ.out.mono ?_
      rintro e w2 ⟨rfl, rfl⟩
      go_wp2_with fail
      go_loopw [4] (fun v wq => ∃ k q : Nat, v = .int .i64 k ∧ k ≤ i ∧ wq = w.drewN q) (fun v _ => i - (intOf v).toNat)
      case atStart => exact ⟨0, q, rfl, by omega, rfl⟩
      case round =>
        clear hc hA1
        obtain ⟨k, q2, rfl, hk, rfl⟩ := hrel
        have hA2 := hA
        obtain ⟨b3, off3, e3, hc⟩ := hA2.atS Hx.out
        injection e3 with e3
        injection e3 with e4 e5 _
        subst e4 e5
        by_cases hki : k < i
        · obtain ⟨y, Hy⟩ : ∃ y, Hid (ns[k]? = some y) := ⟨_, Lib.hid (List.getElem?_eq_getElem (by have := Hl.out; omega))⟩
          obtain ⟨b2, off2, e2, hc2⟩ := hA2.atS Hy.out
          injection e2 with e2
          injection e2 with e3 e4 _
          subst e3 e4
          have hyx : y ≠ x := HD.out i k x y Hx.out Hy.out hki
          have q1 : ((bytesOf y).toList == (bytesOf x).toList) = false := by rw [ByteArray.toList_eq, ByteArray.toList_eq, bytesOf_list, bytesOf_list]; exact beq_eq_false_iff_ne.2 hyx
          have q2 : decide (bytesOf y = bytesOf x) = false := decide_eq_false (fun k => hyx (by have := congrArg (fun b => b.data.toList) k; simpa [bytesOf_list] using this))
          have hkn : k < n := by omega
          clear hyx
          go_wp2_with fail
          go_quiet (fail)
          go_wp2
          go_roundw
          case rel => exact ⟨k + 1, _, by go_num, by omega, by first | rfl | exact World.drewN_drewN _ _ _⟩
          case measure => simp [intOf]; omega
        · obtain rfl : k = i := by omega
          go_wp2
          go_roundw
          case rel => exact ⟨k + 1, _, by go_num, by omega, by first | rfl | exact World.drewN_drewN _ _ _⟩
          case measure => simp [intOf]; omega
    · obtain rfl : i = n := by omega
      go_wp2
      go_ret
      exact ⟨rfl, q, rfl⟩
end Go.Proofs.YtdnkignhenkamaaGreatDoor

/- -/
namespace Go.Proofs.YtdnkignhenkamaaGreatDoor
open Go.RowKit Go.Maps
structure Byt (w : World) (b : Nat) (L : List UInt8) : Prop where
  cell : ∀ j (h : j < L.length), w.cell? ⟨b, j, none⟩ = some (.int .u8 ((L[j]'h).toNat : Int))
  free : ∀ j, j < L.length → w.frozen? ⟨b, j, none⟩ = false
theorem Byt.set_ {w : World} {b : Nat} {L : List UInt8} (h : Byt w b L) {i : Nat} (hi : i < L.length) (c : UInt8) (v : Int) (hv : v = (c.toNat : Int)) : Byt (w.setCell ⟨b, i, none⟩ (.int .u8 v)) b (L.set i c) := by
  subst hv
  refine ⟨fun j hj => ?_, fun j hj => ?_⟩
  · rw [List.length_set] at hj
    by_cases e : i = j
    · subst e
      rw [World.cell?_setCell_same _ _ _ (h.cell i hi)]; simp
    · rw [World.cell?_setCell_other _ _ _ _ (fun k => e (by injection k)), h.cell j hj]; simp [List.getElem_set_ne e]
  · rw [List.length_set] at hj
    rw [World.frozen?_setCell]; exact h.free j hj
theorem byt_world (w : World) (l : List UInt8) : Byt (Lib.bytesWorld w 5 (bytesOf l)) w.heap.size l := by
  refine ⟨fun j hj => ?_, fun j hj => ?_⟩
  · have h1 := Lib.bytesWorld_cell w 5 (bytesOf l) j (by rw [bytesOf_size]; exact hj)
    rw [bytesOf_list, List.getD_eq_getElem?_getD, List.getElem?_eq_getElem hj] at h1
    exact h1
  · unfold World.frozen?
    rw [Lib.bytesWorld_at_new]
    have hc : l.length ≤ (Lib.bytesCells w 5 (bytesOf l)).size := by
      simp [Lib.bytesCells]
      rw [bytesOf_size]; omega
    simp; omega
set_option maxRecDepth 100000 in
set_option maxHeartbeats 2000000 in
theorem vspaced_any (l : List UInt8) (w : World) (hs : l.length ≤ 1000000) : Calls Tryz.prog 137 #[.string (bytesOf l)] w fun e w' => e = .returned (.string (bytesOf (spcL l))) ∧ Below w.heap.size w w' := by
  have hcv := fun W => Lib.run_convert_string_bytes (P := Tryz.prog) W 9 75 5 (bytesOf l) Tryz.underlying9 Tryz.underlying75 Tryz.underlying5
  have hsz : (bytesOf l).size = l.length := bytesOf_size l
  have Hlen : Hid ((spcL l).length = l.length) := Lib.hid (by unfold spcL; rw [List.length_map])
  go_enter Tryz.func137, Tryz.ntmps137
  go_wp2
  have hby := byt_world w l
  have hbw := below_bytesWorld w 5 (bytesOf l)
  generalize Lib.bytesWorld w 5 (bytesOf l) = w1 at hby hbw ⊢
  clear hcv
  go_loopw [4] (fun v wr => ∃ i : Nat, v = .int .i64 i ∧ i ≤ l.length ∧ Byt wr w.heap.size ((spcL l).take i ++ l.drop i) ∧ Below w.heap.size w wr) (fun v _ => l.length - (intOf v).toNat)
  case atStart => exact ⟨0, rfl, by omega, by simpa using hby, hbw⟩
  case round =>
    clear hby hbw
    obtain ⟨i, rfl, hi, hB, hb⟩ := hrel
    have hll : ((spcL l).take i ++ l.drop i).length = l.length := by rw [List.length_append, List.length_take, List.length_drop, Hlen.out]; omega
    by_cases hlt : i < l.length
    · obtain ⟨x, Hx⟩ : ∃ x, Hid (l[i]? = some x) := ⟨_, Lib.hid (List.getElem?_eq_getElem hlt)⟩
      have hgx : ((spcL l).take i ++ l.drop i)[i]'(by omega) = x := by
        have h1 : ((spcL l).take i ++ l.drop i)[i]? = some x := by
          rw [List.getElem?_append_right (by rw [List.length_take, Hlen.out]; omega), List.length_take, Hlen.out, Nat.min_eq_left (by omega), Nat.sub_self, List.getElem?_drop]; exact Hx.out
        obtain ⟨_, h2⟩ := List.getElem?_eq_some_iff.1 h1
        exact h2
      have hc := hB.cell i (by omega)
      rw [hgx] at hc
      have hf := hB.free i (by omega)
      have hnext : ∀ y, y = (if x = 9 then 32 else x) → ((spcL l).take i ++ l.drop i).set i y = (spcL l).take (i + 1) ++ l.drop (i + 1) := fun y hy => by
        have h1 : (spcL l)[i]? = some y := by unfold spcL; rw [List.getElem?_map, Hx.out, hy]; rfl
        rw [drop_at Hx.out, List.take_add_one, h1]
        have h2 : ((spcL l).take i).length = i := by rw [List.length_take, Hlen.out]; omega
        have h3 := set_mid ((spcL l).take i) x y (l.drop (i + 1))
        rw [h2] at h3
        rw [h3]; simp
      by_cases hx9 : x = 9
      · have hz : ((x.toNat : Int) == 9) = true := by rw [hx9]; rfl
        have HN := Lib.hid (hnext 32 (by rw [if_pos hx9]))
        have HB := Lib.hid (hB.set_ (i := i) (by omega) 32 32 rfl)
        rw [HN.out] at HB
        clear hnext hx9 hgx
        go_wp2
        go_roundw
        case rel => exact ⟨i + 1, by go_num, by omega, HB.out, hb.setCell (p := ⟨w.heap.size, i, none⟩) (Nat.le_refl _) _⟩
        case measure => simp [intOf]; omega
      · have hz : ((x.toNat : Int) == 9) = false := beq_eq_false_iff_ne.2 (fun e => hx9 ((u8_eq (n := 9) (by omega)).2 (by omega)))
        have HN := Lib.hid (hnext x (by rw [if_neg hx9]))
        have hsame : ((spcL l).take i ++ l.drop i).set i x = (spcL l).take i ++ l.drop i := by
          conv => lhs; rw [← hgx]
          exact List.set_getElem_self _
        rw [hsame] at HN
        clear hnext hx9 hgx hsame
        go_wp2
        go_roundw
        case rel => exact ⟨i + 1, by go_num, by omega, by rw [← HN.out]; exact hB, hb⟩
        case measure => simp [intOf]; omega
    · have HE : Hid ((spcL l).take i ++ l.drop i = spcL l) := Lib.hid (by rw [List.take_of_length_le (by rw [Hlen.out]; omega), List.drop_of_length_le (by omega), List.append_nil])
      rw [HE.out] at hB
      have hcb := fun c => run_convert_bytes_back (P := Tryz.prog) wr 75 9 5 ⟨w.heap.size, 0, none⟩ c (spcL l) Tryz.underlying75 Tryz.underlying5 Tryz.underlying9 (fun k hk => by
        have e : (⟨w.heap.size, 0, none⟩ : Addr).add k = ⟨w.heap.size, k, none⟩ := by
          unfold Addr.add
          split
          · rename_i h0; rw [h0]
          · simp
        rw [e]; exact hB.cell k hk)
      rw [Hlen.out] at hcb
      go_wp2
      go_ret
      exact ⟨rfl, hb⟩
theorem take_sub {l : List UInt8} {a b : Nat} : (bytesOf l).extract a b = bytesOf ((l.drop a).take (b - a)) := ext_bytes2 l a b
set_option maxRecDepth 100000 in
set_option maxHeartbeats 2000000 in
theorem vLines_any (t : List UInt8) (w : World) (ht : t.length ≤ 1000000) :
    Calls Tryz.prog 110 #[.string (bytesOf t)] w fun e w' => ∃ A n c, e = .returned (.slice A n c) ∧ Own w' w.heap.size 9 1 A n c ((splitL t).map encNm) ∧ Below w.heap.size w w' := by
  obtain ⟨i0, hi0, hz0, hz1, hz2⟩ := info_parts info_cloneS
  have hsz : (bytesOf t).size = t.length := bytesOf_size t
  go_enter Tryz.func110, Tryz.ntmps110
  go_wp2
  go_loopw [3, 4, 5] (fun a f v wr => ∃ (i frm : Nat) (done : List (List UInt8)) (A : Option Addr) (n c : Nat), a = .slice A n c ∧ f = .int .i64 frm ∧ v = .int .i64 i ∧ i ≤ t.length ∧ n ≤ i ∧ frm ≤ i ∧ Hid (LinesAt t i frm done) ∧ Own wr w.heap.size 9 1 A n c (done.map encNm) ∧ Below w.heap.size w wr) (fun _ _ v _ => t.length - (intOf v).toNat)
  case atStart => exact ⟨0, 0, [], none, 0, 0, rfl, rfl, rfl, by omega, by omega, by omega, LinesAt.start t, Own.nil_ _ _ _ _, Below.refl _ _⟩
  case round =>
    obtain ⟨i, frm, done, A, n, c, rfl, rfl, rfl, hi, hni, hfi, HL, ho, hb⟩ := hrel
    have hszr := hb.size
    by_cases hlt : i < t.length
    · have hp : i < (bytesOf t).size := by omega
      have hix := index_at (bytesOf t) i i rfl hp
      obtain ⟨x, hx⟩ : ∃ x, (bytesOf t)[i]'hp = x := ⟨_, rfl⟩
      have Hx : Hid (t[i]? = some x) := Lib.hid (by have := get_list hp; rw [bytesOf_list, hx] at this; exact this)
      have hgi : (((bytesOf t)[i]'hp).toNat : Int) = (x.toNat : Int) := by rw [hx]
      rw [hx] at hix
      clear hx
      by_cases hx10 : x = 10
      · have hz : ((x.toNat : Int) == 10) = true := by rw [hx10]; rfl
        have HL' := Lib.hid (LinesAt.line HL.out (by rw [Hx.out, hx10]))
        have HX := Lib.hid (take_sub (l := t) (a := frm) (b := i))
        clear hx10
        go_wp2_with (at_builtin; go_must (refine wpList_app rfl (.tmp 16) (.tmp 21) _ rfl w.heap.size 9 i0 _ 1 16 Tryz.underlying69 hi0 hz0 hz1 hz2 rfl (by omega) A n c (done.map encNm) rfl (ho.alloc _) _ 1 1 [encNm ((t.drop frm).take (i - frm))] rfl rfl (Rd.newAt (by simp) (by simp [encNm, HX.out])) (encNm_ok [(t.drop frm).take (i - frm)]) (by unfold maxLen; omega) (by omega) (by simp; omega) ?_); intro A3 c3 w3 ho3 hg3 hA3; have hb3 := below_app (hb.alloc (by omega) _) hg3 (by simp; omega) (fun a ha => (ho.lt a ha).1); clear hg3)
        have Ho3 : Own w3 w.heap.size 9 1 A3 (n + 1) c3 ((done ++ [(t.drop frm).take (i - frm)]).map encNm) := by rw [List.map_append]; exact ho3
        clear ho3
        go_roundw
        case rel => exact ⟨i + 1, i + 1, _, A3, n + 1, c3, rfl, by go_num, by go_num, by omega, by omega, by omega, HL', Ho3, hb3⟩
        case measure => simp [intOf]; omega
      · have hz : ((x.toNat : Int) == 10) = false := beq_eq_false_iff_ne.2 (fun e => hx10 ((u8_eq (n := 10) (by omega)).2 (by omega)))
        have HL' := Lib.hid (LinesAt.byte HL.out Hx.out hx10)
        clear hx10
        go_wp2
        go_roundw
        case rel => exact ⟨i + 1, frm, done, A, n, c, rfl, rfl, by go_num, by omega, by omega, by omega, HL', ho, hb⟩
        case measure => simp [intOf]; omega
    · obtain rfl : i = t.length := by omega
      have HE := Lib.hid (LinesAt.done HL.out)
      have HX := Lib.hid (ext_bytes t frm)
      rw [hsz] at HX
      go_wp2_with (at_builtin; go_must (refine wpList_app rfl (.tmp 25) (.tmp 29) _ rfl w.heap.size 9 i0 _ 1 16 Tryz.underlying69 hi0 hz0 hz1 hz2 rfl (by omega) A n c (done.map encNm) rfl (ho.alloc _) _ 1 1 [encNm (t.drop frm)] rfl rfl (Rd.newAt (by simp) (by simp [encNm, HX.out])) (encNm_ok [t.drop frm]) (by unfold maxLen; omega) (by omega) (by simp; omega) ?_); intro A3 c3 w3 ho3 hg3 hA3; have hb3 := below_app (hb.alloc (by omega) _) hg3 (by simp; omega) (fun a ha => (ho.lt a ha).1); clear hg3)
      go_ret
      exact ⟨A3, n + 1, c3, rfl, by rw [HE.out, List.map_append]; exact ho3, hb3⟩
end Go.Proofs.YtdnkignhenkamaaGreatDoor

/- -/
namespace Go.Proofs.YtdnkignhenkamaaGreatDoor
open Go.RowKit Go.Maps
theorem oblank_any (c : UInt8) (w : World) : Calls Tryz.prog 176 #[.int .u8 (c.toNat : Int)] w fun e w' => e = .returned (.bool (blkB c)) ∧ w = w' := by
  have HT := Lib.hid (@blk_true c)
  have HF := Lib.hid (@blk_false c)
  generalize (c.toNat : Int) = z at HT HF
  rcases (by omega : z = 32 ∨ z = 9 ∨ (z ≠ 32 ∧ z ≠ 9)) with h | h | ⟨h, h'⟩
  · have HV := Lib.hid (HT.out (.inl h))
    subst h
    go_enter Tryz.func176, Tryz.ntmps176
    go_wp2
    go_ret
    exact ⟨by rw [HV.out]; rfl, rfl⟩
  · have HV := Lib.hid (HT.out (.inr h))
    subst h
    go_enter Tryz.func176, Tryz.ntmps176
    go_wp2
    go_ret
    exact ⟨by rw [HV.out]; rfl, rfl⟩
  · have HV := Lib.hid (HF.out (by omega))
    have h1 : (z == 32) = false := beq_eq_false_iff_ne.2 h
    have h2 : (z == 9) = false := beq_eq_false_iff_ne.2 h'
    go_enter Tryz.func176, Tryz.ntmps176
    go_wp2
    go_ret
    exact ⟨by rw [HV.out]; rfl, rfl⟩
set_option maxRecDepth 100000 in
set_option maxHeartbeats 2000000 in
theorem otrim_any (L : List UInt8) (w : World) (hL : L.length ≤ 1000000) : Calls Tryz.prog 145 #[.string (bytesOf L)] w fun e w' => e = .returned (.string (bytesOf (trimL L))) ∧ w = w' := by
  have HTE := Lib.hid (trimL_eq L)
  go_enter Tryz.func145, Tryz.ntmps145
  go_wp2
  go_loopw [0] (fun v wr => ∃ l : List UInt8, v = .string (bytesOf l) ∧ l.length ≤ L.length ∧ Hid (l.dropWhile blkB = L.dropWhile blkB) ∧ wr = w) (fun v _ => strSize v)
  case atStart => exact ⟨L, rfl, by omega, rfl, rfl⟩
  case round =>
    obtain ⟨l, rfl, hl, HD, rfl⟩ := hrel
    have hsz : (bytesOf l).size = l.length := bytesOf_size l
    by_cases hb : ∃ c r, l = c :: r ∧ blkB c = true
    · obtain ⟨c, r, rfl, hc⟩ := hb
      have h0 : 0 < (bytesOf (c :: r)).size := by rw [hsz]; simp
      have hix := index_at (bytesOf (c :: r)) 0 0 rfl h0
      have hg : (bytesOf (c :: r))[0]'h0 = c := by have := get_list h0; rw [bytesOf_list] at this; simpa using this.symm
      rw [hg] at hix
      have hgi : (((bytesOf (c :: r))[0]'h0).toNat : Int) = (c.toNat : Int) := by rw [hg]
      have HX := Lib.hid (ext_bytes (c :: r) 1)
      rw [hsz] at HX
      have hl2 : (r.length : Int) + 1 ≤ 1000000 := by simp at hl; omega
      clear hg
      go_wp2_with (go_at_call 176; refine (oblank_any c _).mono ?_; rw [hc]; rintro e w' ⟨rfl, rfl⟩)
      go_roundw
      case rel => exact ⟨r, by first | exact congrArg Value.string HX.out | (rw [← ext_bytes (c :: r) 1]; rfl), by simp at hl; omega, Lib.hid (by rw [← HD.out, drop_blank hc]), by first | rfl | trivial⟩
      case measure => simp only [strSize, ByteArray.size_extract, bytesOf_size, List.length_cons]; omega
    · have HLD : Hid (l = L.dropWhile blkB) := Lib.hid (by
        rw [← HD.out]
        cases l with
        | nil => rfl
        | cons c r =>
          have : blkB c = false := by
            cases hq : blkB c with
            | false => rfl
            | true => exact absurd ⟨c, r, rfl, hq⟩ hb
          exact (dropWhile_stop this).symm)
      have HTR : Hid (trimL L = trimR l) := Lib.hid (by rw [HTE.out, HLD.out])
      have hstop : l = [] ∨ ∃ c r, l = c :: r ∧ blkB c = false := by
        cases l with
        | nil => exact .inl rfl
        | cons c r =>
          refine .inr ⟨c, r, rfl, ?_⟩
          cases hq : blkB c with
          | false => rfl
          | true => exact absurd ⟨c, r, rfl, hq⟩ hb
      clear hb HD HLD
      rcases hstop with rfl | ⟨c, r, rfl, hc⟩
      · have HT0 : Hid (trimL L = []) := Lib.hid (by rw [HTR.out]; rfl)
        have hz0 : (bytesOf []).size = 0 := rfl
        go_wp2_with fail
        go_loopw [0] (fun v wq => v = .string (bytesOf []) ∧ wq = wr) (fun _ _ => 0)
        case atStart => exact ⟨rfl, rfl⟩
        case round =>
          obtain ⟨rfl, rfl⟩ := hrel
          go_wp2
          go_ret
          exact ⟨by rw [HT0.out]; rfl, rfl⟩
      · have h0 : 0 < (bytesOf (c :: r)).size := by rw [hsz]; simp
        have hix := index_at (bytesOf (c :: r)) 0 0 rfl h0
        have hg : (bytesOf (c :: r))[0]'h0 = c := by have := get_list h0; rw [bytesOf_list] at this; simpa using this.symm
        rw [hg] at hix
        have hgi : (((bytesOf (c :: r))[0]'h0).toNat : Int) = (c.toNat : Int) := by rw [hg]
        clear hg
        go_wp2_with (go_at_call 176; refine (oblank_any c _).mono ?_; rw [hc]; rintro e w' ⟨rfl, rfl⟩)
        go_loopw [0] (fun v wq => ∃ l : List UInt8, v = .string (bytesOf l) ∧ l.length ≤ L.length ∧ Hid (trimR l = trimL L) ∧ wq = wr) (fun v _ => strSize v)
        case atStart => exact ⟨c :: r, rfl, hl, Lib.hid HTR.out.symm, rfl⟩
        case round =>
          clear hix hgi h0
          obtain ⟨l, rfl, hl2, HD, rfl⟩ := hrel
          have hsz2 : (bytesOf l).size = l.length := bytesOf_size l
          rcases List.eq_nil_or_concat l with rfl | ⟨o, y, rfl⟩
          · have HT0 : Hid (trimL L = []) := Lib.hid (by rw [← HD.out]; rfl)
            have hz0 : (bytesOf []).size = 0 := rfl
            go_wp2
            go_ret
            exact ⟨by rw [HT0.out]; rfl, rfl⟩
          · rw [List.concat_eq_append] at *
            have hlast : (o ++ [y]).getLast? = some y := by simp
            have hol : (o ++ [y]).length = o.length + 1 := by simp
            rw [hol] at hsz2 hl2
            have hp : o.length < (bytesOf (o ++ [y])).size := by omega
            have hix := index_at (bytesOf (o ++ [y])) ((o.length : Int) + 1 - 1) o.length (by omega) hp
            have hix2 := index_at (bytesOf (o ++ [y])) (o.length : Int) o.length rfl hp
            have hg : (bytesOf (o ++ [y]))[o.length]'hp = y := by have := get_list hp; rw [bytesOf_list] at this; simpa using this.symm
            rw [hg] at hix hix2
            have hgi : (((bytesOf (o ++ [y]))[o.length]'hp).toNat : Int) = (y.toNat : Int) := by rw [hg]
            clear hg
            cases hy : blkB y with
            | true =>
              have HX : Hid ((bytesOf (o ++ [y])).extract 0 o.length = bytesOf o) := Lib.hid (by rw [ext_bytes0]; simp)
              have HD' : Hid (trimR o = trimL L) := Lib.hid (by rw [← HD.out, (trim_last hlast).1 hy, hol, Nat.add_sub_cancel]; simp)
              go_wp2_with (go_at_call 176; refine (oblank_any y _).mono ?_; rw [hy]; rintro e w' ⟨rfl, rfl⟩)
              go_roundw
              case rel => exact ⟨o, congrArg Value.string HX.out, by omega, HD', by first | rfl | trivial⟩
              case measure => simp only [strSize, ByteArray.size_extract, bytesOf_size, List.length_append, List.length_singleton]; omega
            | false =>
              have HD' : Hid (trimL L = o ++ [y]) := Lib.hid (by rw [← HD.out, (trim_last hlast).2 hy])
              go_wp2_with (go_at_call 176; refine (oblank_any y _).mono ?_; rw [hy]; rintro e w' ⟨rfl, rfl⟩)
              go_ret
              exact ⟨by rw [HD'.out]; rfl, rfl⟩
set_option maxRecDepth 100000 in
set_option maxHeartbeats 2000000 in
theorem oLines_any (t : List UInt8) (w : World) (ht : t.length ≤ 1000000) :
    Calls Tryz.prog 114 #[.string (bytesOf t)] w fun e w' => ∃ A n c, e = .returned (.slice A n c) ∧ Own w' w.heap.size 9 1 A n c ((splitL t).map encNm) ∧ Below w.heap.size w w' := by
  obtain ⟨i0, hi0, hz0, hz1, hz2⟩ := info_parts info_cloneS
  have hsz : (bytesOf t).size = t.length := bytesOf_size t
  go_enter Tryz.func114, Tryz.ntmps114
  go_wp2
  go_loopw [3, 4, 5] (fun a f v wr => ∃ (i frm : Nat) (done : List (List UInt8)) (A : Option Addr) (n c : Nat), a = .slice A n c ∧ f = .int .i64 frm ∧ v = .int .i64 i ∧ i ≤ t.length ∧ n ≤ i ∧ frm ≤ i ∧ Hid (LinesAt t i frm done) ∧ Own wr w.heap.size 9 1 A n c (done.map encNm) ∧ Below w.heap.size w wr) (fun _ _ v _ => t.length - (intOf v).toNat)
  case atStart => exact ⟨0, 0, [], none, 0, 0, rfl, rfl, rfl, by omega, by omega, by omega, LinesAt.start t, Own.nil_ _ _ _ _, Below.refl _ _⟩
  case round =>
    obtain ⟨i, frm, done, A, n, c, rfl, rfl, rfl, hi, hni, hfi, HL, ho, hb⟩ := hrel
    have hszr := hb.size
    by_cases hlt : i < t.length
    · have hp : i < (bytesOf t).size := by omega
      have hix := index_at (bytesOf t) i i rfl hp
      obtain ⟨x, hx⟩ : ∃ x, (bytesOf t)[i]'hp = x := ⟨_, rfl⟩
      have Hx : Hid (t[i]? = some x) := Lib.hid (by have := get_list hp; rw [bytesOf_list, hx] at this; exact this)
      have hgi : (((bytesOf t)[i]'hp).toNat : Int) = (x.toNat : Int) := by rw [hx]
      rw [hx] at hix
      clear hx
      by_cases hx10 : x = 10
      · have hz : ((x.toNat : Int) == 10) = true := by rw [hx10]; rfl
        have HL' := Lib.hid (LinesAt.line HL.out (by rw [Hx.out, hx10]))
        have HX := Lib.hid (take_sub (l := t) (a := frm) (b := i))
        clear hx10
        go_wp2_with (at_builtin; go_must (refine wpList_app rfl (.tmp 16) (.tmp 21) _ rfl w.heap.size 9 i0 _ 1 16 Tryz.underlying69 hi0 hz0 hz1 hz2 rfl (by omega) A n c (done.map encNm) rfl (ho.alloc _) _ 1 1 [encNm ((t.drop frm).take (i - frm))] rfl rfl (Rd.newAt (by simp) (by simp [encNm, HX.out])) (encNm_ok [(t.drop frm).take (i - frm)]) (by unfold maxLen; omega) (by omega) (by simp; omega) ?_); intro A3 c3 w3 ho3 hg3 hA3; have hb3 := below_app (hb.alloc (by omega) _) hg3 (by simp; omega) (fun a ha => (ho.lt a ha).1); clear hg3)
        have Ho3 : Own w3 w.heap.size 9 1 A3 (n + 1) c3 ((done ++ [(t.drop frm).take (i - frm)]).map encNm) := by rw [List.map_append]; exact ho3
        clear ho3
        go_roundw
        case rel => exact ⟨i + 1, i + 1, _, A3, n + 1, c3, rfl, by go_num, by go_num, by omega, by omega, by omega, HL', Ho3, hb3⟩
        case measure => simp [intOf]; omega
      · have hz : ((x.toNat : Int) == 10) = false := beq_eq_false_iff_ne.2 (fun e => hx10 ((u8_eq (n := 10) (by omega)).2 (by omega)))
        have HL' := Lib.hid (LinesAt.byte HL.out Hx.out hx10)
        clear hx10
        go_wp2
        go_roundw
        case rel => exact ⟨i + 1, frm, done, A, n, c, rfl, rfl, by go_num, by omega, by omega, by omega, HL', ho, hb⟩
        case measure => simp [intOf]; omega
    · obtain rfl : i = t.length := by omega
      have HE := Lib.hid (LinesAt.done HL.out)
      have HX := Lib.hid (ext_bytes t frm)
      rw [hsz] at HX
      go_wp2_with (at_builtin; go_must (refine wpList_app rfl (.tmp 25) (.tmp 29) _ rfl w.heap.size 9 i0 _ 1 16 Tryz.underlying69 hi0 hz0 hz1 hz2 rfl (by omega) A n c (done.map encNm) rfl (ho.alloc _) _ 1 1 [encNm (t.drop frm)] rfl rfl (Rd.newAt (by simp) (by simp [encNm, HX.out])) (encNm_ok [t.drop frm]) (by unfold maxLen; omega) (by omega) (by simp; omega) ?_); intro A3 c3 w3 ho3 hg3 hA3; have hb3 := below_app (hb.alloc (by omega) _) hg3 (by simp; omega) (fun a ha => (ho.lt a ha).1); clear hg3)
      go_ret
      exact ⟨A3, n + 1, c3, rfl, by rw [HE.out, List.map_append]; exact ho3, hb3⟩
end Go.Proofs.YtdnkignhenkamaaGreatDoor

/- -/
namespace Go.Proofs.YtdnkignhenkamaaGreatDoor
open Go.RowKit Go.Maps
theorem pBlank_eq : pBlank = blkB := by
  funext c
  have h1 : c = 32 ↔ c.toNat = 32 := u8_eq (n := 32) (by omega)
  have h2 : c = 9 ↔ c.toNat = 9 := u8_eq (n := 9) (by omega)
  unfold pBlank blkB
  rw [Bool.eq_iff_iff]
  simp only [Bool.or_eq_true, beq_iff_eq, decide_eq_true_iff, h1, h2]
theorem trimB_eq (l : List UInt8) : trimB l = trimL l := by unfold trimB trimL; rw [pBlank_eq]
theorem byte_of (t : List UInt8) {i : Nat} (hi : i < t.length) : ∃ x, t[i]? = some x ∧ ∀ W, (Instr.index 9 (.string (bytesOf t)) (.int .i64 (i : Nat))).run Tryz.prog W = .ok (.int .u8 (x.toNat : Int)) W := by
  have hp : i < (bytesOf t).size := by rw [bytesOf_size]; exact hi
  refine ⟨(bytesOf t)[i]'hp, ?_, fun W => index_at (bytesOf t) i i rfl hp W⟩
  have := get_list hp
  rw [bytesOf_list] at this
  exact this
theorem take_at {q : UInt8 → Bool} {l : List UInt8} {i : Nat} {x : UInt8} (hx : l[i]? = some x) : (q x = true → l.take i ++ (l.drop i).takeWhile q = l.take (i + 1) ++ (l.drop (i + 1)).takeWhile q) ∧ (q x = false → l.take i ++ (l.drop i).takeWhile q = l.take i) := by
  obtain ⟨hi, e⟩ := List.getElem?_eq_some_iff.1 hx
  rw [List.drop_eq_getElem_cons hi, e]
  constructor
  · intro hq
    rw [List.takeWhile_cons, if_pos hq, List.take_add_one, hx]
    simp
  · intro hq
    rw [List.takeWhile_cons, if_neg (by rw [hq]; simp), List.append_nil]
set_option maxRecDepth 100000 in
set_option maxHeartbeats 4000000 in
theorem oplain_any (L : List UInt8) (w : World) (hL : L.length ≤ 1000000) : Calls Tryz.prog 143 #[.string (bytesOf L)] w fun e w' => e = .returned (.string (bytesOf (plainB L))) ∧ w = w' := by
  have hsz : (bytesOf L).size = L.length := bytesOf_size L
  have HT := Lib.hid (fun i W => show Calls Tryz.prog 145 #[.string ((bytesOf L).extract 0 i)] W fun e w' => e = .returned (.string (bytesOf (trimL (L.take i)))) ∧ W = w' by
    rw [ext_bytes0]; exact otrim_any (L.take i) W (by rw [List.length_take]; omega))
  have HA := Lib.hid (fun W => otrim_any L W hL)
  have HP := Lib.hid (show plainB L = trimL (L.takeWhile fun c => decide (c.toNat ≠ 35)) by unfold plainB; rw [trimB_eq])
  go_enter Tryz.func143, Tryz.ntmps143
  go_wp2
  go_loopw [3] (fun v wr => ∃ i : Nat, v = .int .i64 i ∧ i ≤ L.length ∧ Hid ((L.takeWhile fun c => decide (c.toNat ≠ 35)) = L.take i ++ (L.drop i).takeWhile fun c => decide (c.toNat ≠ 35)) ∧ wr = w) (fun v _ => L.length - (intOf v).toNat)
  case atStart => exact ⟨0, rfl, by omega, Lib.hid rfl, rfl⟩
  case round =>
    obtain ⟨i, rfl, hi, HD, rfl⟩ := hrel
    by_cases hlt : i < L.length
    · obtain ⟨x, hx, hix⟩ := byte_of L hlt
      by_cases h35 : x.toNat = 35
      · have t1 : ((x.toNat : Int) == 35) = true := by rw [beq_iff_eq]; omega
        have HE := Lib.hid (show plainB L = trimL (L.take i) by rw [HP.out, HD.out, (take_at hx).2 (by simp [h35])])
        have HT1 := Lib.hid (HT.out i wr)
        clear hx h35
        go_wp2_with (go_at_call 145; refine HT1.out.mono ?_; rintro e w' ⟨rfl, rfl⟩)
        go_ret
        exact ⟨by rw [HE.out]; rfl, rfl⟩
      · have t1 : ((x.toNat : Int) == 35) = false := by rw [beq_eq_false_iff_ne]; omega
        have HD2 := Lib.hid (HD.out.trans ((take_at hx).1 (by simp [h35])))
        clear hx h35
        go_wp2
        go_roundw
        case rel => exact ⟨i + 1, by go_num, by omega, HD2, by first | rfl | trivial⟩
        case measure => simp [intOf]; omega
    · obtain rfl : i = L.length := by omega
      have HE := Lib.hid (show plainB L = trimL L by rw [HP.out, HD.out]; simp)
      have HT1 := Lib.hid (HA.out wr)
      go_wp2_with (go_at_call 145; refine HT1.out.mono ?_; rintro e w' ⟨rfl, rfl⟩)
      go_ret
      exact ⟨by rw [HE.out]; rfl, rfl⟩
theorem signP_some {l a b : List UInt8} {cut : Bool} (h : signP l = some (a, cut, b)) : ∃ c, l = a ++ c :: b ∧ (∀ x ∈ a, pSign x = false) ∧ pSign c = true ∧ (∀ x ∈ b, pSign x = false) ∧ cut = decide (c.toNat = 47) := by
  unfold signP at h
  split at h
  · cases h
  · rename_i c t hd
    split at h
    · cases h
    · rename_i hb
      injection h with h
      injection h with h1 h2
      injection h2 with h2 h3
      subst h1 h2 h3
      have hc : (!pSign c) = false := by
        have h1 := List.head?_dropWhile_not (fun c => !pSign c) l
        rw [hd] at h1
        simpa using h1
      refine ⟨c, ?_, fun x hx => ?_, by simpa using hc, fun x hx => ?_, rfl⟩
      · rw [← hd, List.takeWhile_append_dropWhile]
      · have h1 := List.all_takeWhile (p := fun c => !pSign c) (l := l)
        rw [List.all_eq_true] at h1
        simpa using h1 x hx
      · cases hq : pSign x with
        | false => rfl
        | true => exact absurd (List.any_eq_true.2 ⟨x, hx, hq⟩) hb
theorem sign_tests (x : UInt8) : pSign x = (((x.toNat : Int) == 126) || ((x.toNat : Int) == 47)) := by
  unfold pSign
  rw [Bool.eq_iff_iff]
  simp only [Bool.or_eq_true, beq_iff_eq, decide_eq_true_iff]
  omega
set_option maxRecDepth 100000 in
set_option maxHeartbeats 4000000 in
theorem osplit_ok (a b : List UInt8) (c : UInt8) (w : World) (hz : (a ++ c :: b).length ≤ 1000000) (ha : ∀ x ∈ a, pSign x = false) (hc : pSign c = true) (hb : ∀ x ∈ b, pSign x = false) : Calls Tryz.prog 144 #[.string (bytesOf (a ++ c :: b))] w fun e w' => e = .returned (.int .i64 (a.length : Nat)) ∧ w = w' := by
  have HI := Lib.hid (fun i x (hx : (a ++ c :: b)[i]? = some x) => show pSign x = decide (i = a.length) by
    rcases Nat.lt_trichotomy i a.length with h | h | h
    · rw [List.getElem?_append_left h] at hx
      rw [ha x (List.mem_of_getElem? hx), decide_eq_false (by omega)]
    · subst h
      rw [List.getElem?_append_right (Nat.le_refl _), Nat.sub_self, List.getElem?_cons_zero] at hx
      injection hx with hx
      subst hx
      rw [hc, decide_eq_true rfl]
    · rw [List.getElem?_append_right (by omega)] at hx
      obtain ⟨j, hj⟩ : ∃ j, i - a.length = j + 1 := ⟨i - a.length - 1, by omega⟩
      rw [hj, List.getElem?_cons_succ] at hx
      rw [hb x (List.mem_of_getElem? hx), decide_eq_false (by omega)])
  have hl : (a ++ c :: b).length = a.length + 1 + b.length := by simp; omega
  have hsz : (bytesOf (a ++ c :: b)).size = (a ++ c :: b).length := bytesOf_size _
  have HB := Lib.hid (fun i (hi : i < (a ++ c :: b).length) => byte_of (a ++ c :: b) hi)
  obtain ⟨m, hm⟩ : ∃ m, a.length = m := ⟨_, rfl⟩
  rw [hm] at HI hl ⊢
  generalize a ++ c :: b = L at HI HB hsz hl hz ⊢
  clear ha hb hc hm
  go_enter Tryz.func144, Tryz.ntmps144
  go_wp2
  go_loopw [3, 4] (fun u v wr => ∃ i : Nat, v = .int .i64 i ∧ i ≤ L.length ∧ ((i ≤ m ∧ u = .int .i64 (-1)) ∨ (m < i ∧ u = .int .i64 (m : Nat))) ∧ wr = w) (fun _ v _ => L.length - (intOf v).toNat)
  case atStart => exact ⟨0, rfl, by omega, .inl ⟨by omega, rfl⟩, rfl⟩
  case round =>
    obtain ⟨i, rfl, hi, hcs, rfl⟩ := hrel
    by_cases hlt : i < L.length
    · obtain ⟨x, hx, hix⟩ := HB.out i hlt
      have hq := HI.out i x hx
      rw [sign_tests] at hq
      rcases Nat.lt_trichotomy i m with h | h | h
      · rcases hcs with ⟨_, rfl⟩ | ⟨h2, _⟩
        · rw [decide_eq_false (by omega), Bool.or_eq_false_iff] at hq
          obtain ⟨t1, t2⟩ := hq
          clear hx
          go_wp2
          go_roundw
          case rel => exact ⟨i + 1, by go_num, by omega, .inl ⟨by omega, rfl⟩, by first | rfl | trivial⟩
          case measure => simp [intOf]; omega
        · omega
      · subst h
        rcases hcs with ⟨_, rfl⟩ | ⟨h2, _⟩
        · rw [decide_eq_true rfl, Bool.or_eq_true] at hq
          cases t1 : ((x.toNat : Int) == 126) with
          | true =>
            clear hx hq
            go_wp2
            go_roundw
            case rel => exact ⟨i + 1, by go_num, by omega, .inr ⟨by omega, rfl⟩, by first | rfl | trivial⟩
            case measure => simp [intOf]; omega
          | false =>
            have t2 : ((x.toNat : Int) == 47) = true := by rcases hq with h | h; rw [t1] at h; cases h; exact h
            clear hx hq
            go_wp2
            go_roundw
            case rel => exact ⟨i + 1, by go_num, by omega, .inr ⟨by omega, rfl⟩, by first | rfl | trivial⟩
            case measure => simp [intOf]; omega
        · omega
      · rcases hcs with ⟨h2, _⟩ | ⟨_, rfl⟩
        · omega
        · rw [decide_eq_false (by omega), Bool.or_eq_false_iff] at hq
          obtain ⟨t1, t2⟩ := hq
          clear hx
          go_wp2
          go_roundw
          case rel => exact ⟨i + 1, by go_num, by omega, .inr ⟨by omega, rfl⟩, by first | rfl | trivial⟩
          case measure => simp [intOf]; omega
    · obtain rfl : i = L.length := by omega
      rcases hcs with ⟨h2, _⟩ | ⟨_, rfl⟩
      · omega
      · go_wp2
        go_ret
        exact ⟨rfl, rfl⟩
end Go.Proofs.YtdnkignhenkamaaGreatDoor

/- -/
namespace Go.Proofs.YtdnkignhenkamaaGreatDoor
open Go.RowKit
structure RsX (w : World) (X : Nat → Prop) (rules : List RuleP) (v : Sv) : Prop where
  ex : ∃ vs : List Ruv, SlX w X 9 v (vs.map encRul) ∧ vs.length = rules.length ∧ ∀ (i : Nat) (r : RuleP) (u : Ruv), rules[i]? = some r → vs[i]? = some u → RuX w X r u
theorem RsX.keep {X X' : Nat → Prop} {w w' : World} {rules : List RuleP} {v : Sv} (h : RsX w X rules v) (k : KeepX X X' w w') : RsX w' X' rules v := by
  obtain ⟨vs, h1, h2, h3⟩ := h.ex
  exact ⟨vs, h1.keep k, h2, fun i r u hr hu => (h3 i r u hr hu).keep k⟩
theorem RsX.below {X : Nat → Prop} {w w' : World} {rules : List RuleP} {v : Sv} (h : RsX w X rules v) (hb : Below w.heap.size w w') : RsX w' X rules v := h.keep (KeepX.below hb)
theorem RsX.len {X : Nat → Prop} {w : World} {rules : List RuleP} {v : Sv} (h : RsX w X rules v) : v.2.1 = rules.length := by
  obtain ⟨vs, h1, h2, h3⟩ := h.ex
  have := h1.len
  rw [List.length_map] at this
  omega
theorem RsX.at_ {X : Nat → Prop} {w : World} {rules : List RuleP} {v : Sv} {i : Nat} {r : RuleP} (h : RsX w X rules v) (hr : rules[i]? = some r) :
    ∃ (b off : Nat) (u : Ruv), v.1 = some ⟨b, off, none⟩ ∧ RuX w X r u ∧ w.cell? ⟨b, off + i * 9, none⟩ = some (.bool u.1) ∧ w.cell? ⟨b, off + i * 9 + 1, none⟩ = some (.bool u.2.1) ∧ w.cell? ⟨b, off + i * 9 + 2, none⟩ = some (.bool u.2.2.1) ∧
      w.cell? ⟨b, off + i * 9 + 3, none⟩ = some (.int .i64 (u.2.2.2.1.1 : Int)) ∧ w.cell? ⟨b, off + i * 9 + 4, none⟩ = some (.slice u.2.2.2.1.2.1.1 u.2.2.2.1.2.1.2.1 u.2.2.2.1.2.1.2.2) ∧ w.cell? ⟨b, off + i * 9 + 5, none⟩ = some (.slice u.2.2.2.1.2.2.1 u.2.2.2.1.2.2.2.1 u.2.2.2.1.2.2.2.2) ∧
      w.cell? ⟨b, off + i * 9 + 6, none⟩ = some (.int .i64 (u.2.2.2.2.1 : Int)) ∧ w.cell? ⟨b, off + i * 9 + 7, none⟩ = some (.slice u.2.2.2.2.2.1.1 u.2.2.2.2.2.1.2.1 u.2.2.2.2.2.1.2.2) ∧ w.cell? ⟨b, off + i * 9 + 8, none⟩ = some (.slice u.2.2.2.2.2.2.1 u.2.2.2.2.2.2.2.1 u.2.2.2.2.2.2.2.2) := by
  obtain ⟨vs, h1, h2, h3⟩ := h.ex
  obtain ⟨u, hu⟩ : ∃ u, vs[i]? = some u := ⟨_, List.getElem?_eq_getElem (by have := (List.getElem?_eq_some_iff.1 hr).1; omega)⟩
  obtain ⟨b, off, e, hc⟩ := h1.rd (by intro e; cases vs with | nil => simp at hu | cons _ _ => simp at e)
  have hg := fun j (x : Value) (hx : (encRul u)[j]? = some x) => hc i j (encRul u) x (by simp [hu]) hx
  exact ⟨b, off, u, e, h3 i r u hr hu, hg 0 _ rfl, hg 1 _ rfl, hg 2 _ rfl, hg 3 _ rfl, hg 4 _ rfl, hg 5 _ rfl, hg 6 _ rfl, hg 7 _ rfl, hg 8 _ rfl⟩
def valRs (v : Sv) (rest : Bool) : Value := .agg #[.slice v.1 v.2.1 v.2.2, .bool rest]
theorem decideB_drop {rest : Bool} {c : List Nat} {a i : Nat} {rules : List RuleP} {r : RuleP} (h : rules[i]? = some r) : decideB rest c a (rules.drop i) = if appliesB r c a then r.cut else decideB rest c a (rules.drop (i + 1)) := by
  obtain ⟨hi, e⟩ := List.getElem?_eq_some_iff.1 h
  rw [List.drop_eq_getElem_cons hi, e]
  rfl
set_option maxRecDepth 100000 in
set_option maxHeartbeats 4000000 in
theorem oDecide_any (cl : List Nat) (b0 off0 n c0 a : Nat) (hl : cl.length = n) (hn : n ≤ 100000) (hc0 : n ≤ c0) (hn0 : 0 < n) (ha : a ≤ n) (X : Nat → Prop) (rules : List RuleP) (rest : Bool) (v : Sv) (w : World) (hr : RsX w X rules v) (hok : ∀ r ∈ rules, RuleOk r) (hz : rules.length ≤ 64) (hC : Rd w 1 (some ⟨b0, off0, none⟩) (cl.map encN)) :
    Calls Tryz.prog 92 #[valRs v rest, .slice (some ⟨b0, off0, none⟩) n c0, .int .i64 (a : Nat)] w fun e w' => (∃ x : Int, e = .returned (.tuple #[.bool (placeB rules rest cl a), .int .i64 x])) ∧ Below w.heap.size w w' := by
  obtain ⟨A, m, d⟩ := v
  have hm := hr.len
  simp only at hm
  unfold valRs
  simp only
  have HV : Hid (placeB rules rest cl a = (decide (a = 0) || decide (a = n) || decideB rest cl a rules)) := Lib.hid (by unfold placeB; rw [hl])
  have hn0' : ((n : Int) == 0) = false := beq_eq_false_iff_ne.2 (by omega)
  have t1 : decide ((a : Int) < 0) = false := decide_eq_false (by omega)
  have t2 : decide (n < a) = false := decide_eq_false (by omega)
  by_cases ha0 : a = 0
  · subst ha0
    have t3 : (((0 : Nat) : Int) == 0) = true := rfl
    go_enter Tryz.func92, Tryz.ntmps92
    go_wp2
    go_ret2
    exact ⟨⟨-1, by rw [HV.out]; rfl⟩, (Below.refl _ _).alloc (Nat.le_refl _) _⟩
  by_cases han : a = n
  · subst han
    go_enter Tryz.func92, Tryz.ntmps92
    go_wp2
    go_ret2
    exact ⟨⟨-1, by rw [HV.out]; simp⟩, (Below.refl _ _).alloc (Nat.le_refl _) _⟩
  have t3 : ((a : Int) == 0) = false := beq_eq_false_iff_ne.2 (by omega)
  have t4 : ((a : Int) == (n : Int)) = false := beq_eq_false_iff_ne.2 (by omega)
  have HV2 : Hid (placeB rules rest cl a = decideB rest cl a rules) := Lib.hid (by rw [HV.out, decide_eq_false ha0, decide_eq_false han]; rfl)
  have HAp := Lib.hid (fun r u W (h : RuX W X r u) (hrm : r ∈ rules) (hc : Rd W 1 (some ⟨b0, off0, none⟩) (cl.map encN)) => oApplies_any cl b0 off0 n c0 a hl hn hc0 (by omega) (by omega) X r u W h (hok r hrm) hc)
  have HR := Lib.hid hr
  have Hm := Lib.hid hm
  have hmz : m ≤ 64 := by omega
  clear HV ha0 han hr hok hl hm
  go_enter Tryz.func92, Tryz.ntmps92
  go_wp2_with fail
  have Hz : Below w.heap.size w (w.alloc (.cells #[.slice A m d, .bool rest] 41)) := (Below.refl _ _).alloc (Nat.le_refl _) _
  have hb0 : Blk (w.alloc (.cells #[.slice A m d, .bool rest] 41)) w.heap.size 41 _ := Blk.new _ _ _
  generalize (w.alloc (.cells #[.slice A m d, .bool rest] 41)) = w1 at Hz hb0 ⊢
  have k00 := hb0.cell 0
  have k10 := hb0.cell 1
  simp only [List.getElem?_toArray, List.getElem?_cons_succ, List.getElem?_cons_zero] at k00 k10
  clear hb0
  go_loopw [8] (fun z wr => ∃ i : Nat, z = .int .i64 i ∧ i ≤ m ∧ Hid (decideB rest cl a rules = decideB rest cl a (rules.drop i)) ∧ Below w1.heap.size w1 wr) (fun z _ => m - (intOf z).toNat)
  case atStart => exact ⟨0, rfl, by omega, Lib.hid rfl, Below.refl _ _⟩
  case round =>
    obtain ⟨i, rfl, hi, HD, hb⟩ := hrel
    have hbw := below_two Hz hb
    have k0 := cell_keep k00 hb
    have k1 := cell_keep k10 hb
    by_cases hlt : i < m
    · obtain ⟨r, hri⟩ : ∃ r, rules[i]? = some r := ⟨_, List.getElem?_eq_getElem (by have := Hm.out; omega)⟩
      obtain ⟨b, off, u, e, hu, x0, x1, x2, x3, x4, x5, x6, x7, x8⟩ := HR.out.at_ hri
      simp only at e
      subst e
      have y0 := x0
      replace x0 := cell_keep x0 hbw
      replace x1 := cell_keep x1 hbw
      replace x2 := cell_keep x2 hbw
      replace x3 := cell_keep x3 hbw
      replace x4 := cell_keep x4 hbw
      replace x5 := cell_keep x5 hbw
      replace x6 := cell_keep x6 hbw
      replace x7 := cell_keep x7 hbw
      replace x8 := cell_keep x8 hbw
      have HC := Lib.hid (HAp.out r u wr (hu.below hbw) (List.mem_of_getElem? hri) (hC.below hbw))
      have HDn := Lib.hid (decideB_drop (rest := rest) (c := cl) (a := a) hri)
      have Hcut := Lib.hid hu.cut
      unfold valRu at HC
      generalize appliesB r cl a = q at HC HDn
      clear hu hri
      cases q with
      | true =>
        go_wp2_with fail
        refine HC.out.mono ?_
        rintro e w3 ⟨rfl, hb3⟩
        have z0 := cell_keep k0 hb3
        have z1 := cell_keep y0 (below_two hbw hb3)
        go_wp2
        go_ret2
        exact ⟨⟨i, by rw [HV2.out, HD.out, HDn.out, Hcut.out]; rfl⟩, below_two hbw hb3⟩
      | false =>
        go_wp2_with fail
        refine HC.out.mono ?_
        rintro e w3 ⟨rfl, hb3⟩
        go_wp2
        go_roundw
        case rel => exact ⟨i + 1, by go_num, by omega, Lib.hid (by rw [HD.out, HDn.out]; rfl), below_two hb hb3⟩
        case measure => simp [intOf]; omega
    · obtain rfl : i = m := by omega
      have HE := Lib.hid (show rules.drop i = [] from List.drop_of_length_le (by have := Hm.out; omega))
      go_wp2
      go_ret2
      exact ⟨⟨-1, by rw [HV2.out, HD.out, HE.out]; rfl⟩, hbw⟩
end Go.Proofs.YtdnkignhenkamaaGreatDoor

/- -/
namespace Go.Proofs.YtdnkignhenkamaaGreatDoor
open Go.RowKit
set_option maxRecDepth 100000 in
set_option maxHeartbeats 4000000 in
theorem oBounds_any (cl : List Nat) (b0 off0 n c0 : Nat) (hl : cl.length = n) (hn : n ≤ 100000) (hc0 : n ≤ c0) (hn0 : 0 < n) (X : Nat → Prop) (rules : List RuleP) (rest : Bool) (v : Sv) (w : World) (hr : RsX w X rules v) (hok : ∀ r ∈ rules, RuleOk r) (hz : rules.length ≤ 64) (hC : Rd w 1 (some ⟨b0, off0, none⟩) (cl.map encN)) :
    Calls Tryz.prog 64 #[valRs v rest, .slice (some ⟨b0, off0, none⟩) n c0] w fun e w' => ∃ A k c, e = .returned (.slice A k c) ∧ Own w' w.heap.size 3 1 A k c ((boundsB rules rest cl).map encN) ∧ Below w.heap.size w w' := by
  obtain ⟨i0, hi0, hz0, hz1, hz2⟩ := info_parts infoInt
  have HD := Lib.hid (fun a W (ha : a ≤ n) (h : RsX W X rules v) (hc : Rd W 1 (some ⟨b0, off0, none⟩) (cl.map encN)) => oDecide_any cl b0 off0 n c0 a hl hn hc0 hn0 ha X rules rest v W h hok hz hc)
  have HV : Hid (boundsB rules rest cl = (List.range (n + 1)).filter fun i => placeB rules rest cl i) := Lib.hid (by
    unfold boundsB
    rw [if_neg (by intro e; rw [e] at hl; simp at hl; omega), hl])
  have HR := Lib.hid hr
  have HC := Lib.hid hC
  unfold valRs at HD ⊢
  clear hr hok hl hC
  go_enter Tryz.func64, Tryz.ntmps64
  go_wp2_with fail
  have Hz : Below w.heap.size w (w.alloc (.cells #[.slice v.1 v.2.1 v.2.2, .bool rest] 41)) := (Below.refl _ _).alloc (Nat.le_refl _) _
  have hb0 : Blk (w.alloc (.cells #[.slice v.1 v.2.1 v.2.2, .bool rest] 41)) w.heap.size 41 _ := Blk.new _ _ _
  generalize (w.alloc (.cells #[.slice v.1 v.2.1 v.2.2, .bool rest] 41)) = w1 at Hz hb0 ⊢
  have k00 := hb0.cell 0
  have k10 := hb0.cell 1
  simp only [List.getElem?_toArray, List.getElem?_cons_succ, List.getElem?_cons_zero] at k00 k10
  clear hb0
  go_loopw [5, 6, 7, 8] (fun u z _ _ wr => ∃ (i : Nat) (A : Option Addr) (k c : Nat), u = .slice A k c ∧ z = .int .i64 i ∧ i ≤ n + 1 ∧ k ≤ i ∧ Own wr w1.heap.size 3 1 A k c (((List.range i).filter fun i => placeB rules rest cl i).map encN) ∧ Below w1.heap.size w1 wr) (fun _ z _ _ _ => n + 1 - (intOf z).toNat)
  case atStart => exact ⟨0, none, 0, 0, rfl, rfl, by omega, by omega, Own.nil_ _ _ _ _, Below.refl _ _⟩
  case round =>
    obtain ⟨i, A, k, c, rfl, rfl, hi, hki, ho, hb⟩ := hrel
    have hsz := hb.size
    have hbw := below_two Hz hb
    have k0 := cell_keep k00 hb
    have k1 := cell_keep k10 hb
    by_cases hlt : i ≤ n
    · have HDi := Lib.hid (HD.out i wr hlt (HR.out.below hbw) (HC.out.below hbw))
      have HF := Lib.hid (filter_next (m := fun i => placeB rules rest cl i) (i := i))
      generalize placeB rules rest cl i = q at HDi HF
      cases q with
      | false =>
        go_wp2_with fail
        refine HDi.out.mono ?_
        rintro e w5 ⟨⟨x, rfl⟩, hb5⟩
        have ho5 := ho.below hb5
        go_wp2
        go_roundw
        case rel => exact ⟨i + 1, A, k, c, rfl, by go_num, by omega, by omega, by rw [HF.out]; simpa using ho5, below_two hb hb5⟩
        case measure => simp [intOf]; omega
      | true =>
        go_wp2_with fail
        refine HDi.out.mono ?_
        rintro e w5 ⟨⟨x, rfl⟩, hb5⟩
        have ho5 := ho.below hb5
        have hb15 := below_two hb hb5
        have hsz5 := hb15.size
        go_wp2_with (at_builtin; go_must (refine wpList_app rfl (.tmp 23) (.tmp 25) _ rfl w1.heap.size 3 i0 _ 1 8 Tryz.underlying23 hi0 hz0 hz1 hz2 rfl (by omega) A k c _ rfl (ho5.alloc _) _ 1 1 [encN i] rfl rfl (Rd.newAt (by simp) rfl) (encN_ok' [i]) (by unfold maxLen; omega) (by omega) (by simp; omega) ?_); intro A3 c3 w7 ho3 hg3 hA3)
        have hb7 := below_app (hb15.alloc hsz5 (.cells #[.int .i64 (i : Int)] 3)) hg3 (by simp; omega) (fun a ha => (ho5.lt a ha).1)
        go_roundw
        case rel => exact ⟨i + 1, A3, k + 1, c3, rfl, by go_num, by omega, by omega, by rw [HF.out, List.map_append]; exact ho3, hb7⟩
        case measure => simp [intOf]; omega
    · obtain rfl : i = n + 1 := by omega
      rw [← HV.out] at ho
      obtain ⟨z, hz⟩ : ∃ z, n + 1 = z := ⟨_, rfl⟩
      have ez : ((n : Int) + 1) = (z : Int) := by omega
      go_wp2
      go_ret
      exact ⟨A, k, c, rfl, ho.more Hz.size, hbw⟩
end Go.Proofs.YtdnkignhenkamaaGreatDoor

/- -/
namespace Go.Proofs.YtdnkignhenkamaaGreatDoor
open Go.RowKit Go.Maps
end Go.Proofs.YtdnkignhenkamaaGreatDoor

/- -/
namespace Go.Proofs.YtdnkignhenkamaaGreatDoor
open Go.RowKit Go.Maps
theorem getGo_hit {q : Int} {i : Nat} {s : List (Int × Int)} {S : List (List (Int × Int))} (h : hasB s q = true) : getGo q i (s :: S) = i := by unfold getGo; rw [if_pos h]
theorem getGo_miss {q : Int} {i : Nat} {s : List (Int × Int)} {S : List (List (Int × Int))} (h : hasB s q = false) : getGo q i (s :: S) = getGo q (i + 1) S := by conv => lhs; unfold getGo; rw [if_neg (by rw [h]; simp)]
set_option maxRecDepth 100000 in
set_option maxHeartbeats 4000000 in
theorem vGet_any (base p x : Nat) (d : DbP) (r : Int) (w : World) (h : RfB w base p x d.names d.full) (ho : d.Ok) (hap : Apart d.sets) :
    Calls Tryz.prog 25 #[.pointer (some ⟨p, 0, none⟩), .int .i32 r] w fun e w' => e = .returned (.int .i64 (d.get r : Nat)) ∧ w = w' := by
  obtain ⟨An, nn, cn, As, ns, cs, xs, hX⟩ := h.ex
  have hls := hX.lenS
  have hfl := full_len ho
  have hn0 : 0 < ns := by
    have h3 := ho.head
    cases hd : d.names with
    | nil => rw [hd] at h3; cases h3
    | cons a b => rw [hd] at hfl; simp at hfl; omega
  have hn64 : ns ≤ 64 := by have := ho.few; omega
  obtain ⟨g, rfl, _, _⟩ := hX.hs.form hn0
  have c1 := hX.blk.cell 1
  simp only [List.getElem?_toArray, List.getElem?_cons_zero, List.getElem?_cons_succ] at c1
  have HF := Lib.hid (fun i s (hi : d.full[i]? = some s) => full_small ho hap hi)
  have HG : Hid (d.get r = getGo (askR r) 1 d.full.tail) := rfl
  have Hls := Lib.hid (show d.full.length = ns from hls.2)
  have hcase : (r < 0 ∧ askR r = 65533) ∨ (¬ r < 0 ∧ 1114111 < r ∧ askR r = 65533) ∨ (¬ r < 0 ∧ ¬ 1114111 < r ∧ askR r = r) := by
    unfold askR; split <;> omega
  obtain ⟨q, hq⟩ : ∃ q, askR r = q := ⟨_, rfl⟩
  rw [hq] at HG hcase
  clear ho hap h hfl hq
  rcases hcase with ⟨h1, rfl⟩ | ⟨h1, h2, rfl⟩ | ⟨h1, h2, rfl⟩
  · go_enter Tryz.func25, Tryz.ntmps25
    go_wp2_with fail
    go_loopw [5] (fun v wr => ∃ k : Nat, v = .int .i64 (k + 1 : Nat) ∧ k + 1 ≤ ns ∧ wr = w ∧ Hid (d.get r = getGo 65533 (k + 1) (d.full.tail.drop k))) (fun v _ => ns - (intOf v).toNat)
    case atStart => exact ⟨0, rfl, by omega, rfl, by rw [List.drop_zero]; exact HG⟩
    case round =>
      obtain ⟨k, rfl, hk, rfl, HK⟩ := hrel
      by_cases hlt : k + 1 < ns
      · obtain ⟨s, Hs⟩ : ∃ s, Hid (d.full[k + 1]? = some s) := ⟨_, Lib.hid (List.getElem?_eq_getElem (show k + 1 < d.full.length by have := Hls.out; omega))⟩
        obtain ⟨⟨yA, yn, yc⟩, Hy⟩ : ∃ y, Hid (xs[k + 1]? = some y) := ⟨_, Lib.hid (List.getElem?_eq_getElem (show k + 1 < xs.length by omega))⟩
        have hoy : Own wr base 110 2 yA yn yc (s.map encR) := hX.hx.own (k + 1) (yA, yn, yc) s Hy.out Hs.out
        have hly : s.length = yn := by simpa using hoy.len
        have hsm := HF.out _ s Hs.out
        have hcell := hX.hs.cell' rfl Hy.out
        have HH := Lib.hid (sHas_any yA yn yc s 65533 wr (hoy.rd (by omega)) hly (by omega))
        have HD := Lib.hid (drop_at (show d.full.tail[k]? = some s by rw [List.getElem?_tail]; exact Hs.out))
        have hI : (k : Int) + 1 < ns := by omega
        rw [HD.out] at HK
        cases hv : hasB s 65533 with
        | true =>
          have HE := Lib.hid (HK.out.trans (getGo_hit hv))
          rw [hv] at HH
          clear hv hly
          go_wp2_with (go_at_call 69; refine HH.out.mono ?_; rintro e w2 ⟨rfl, rfl⟩)
          go_ret
          exact ⟨by rw [HE.out]; rfl, rfl⟩
        | false =>
          have HE := Lib.hid (HK.out.trans (getGo_miss hv))
          rw [hv] at HH
          clear hv hly
          go_wp2_with (go_at_call 69; refine HH.out.mono ?_; rintro e w2 ⟨rfl, rfl⟩)
          go_roundw
          case rel => exact ⟨k + 1, by go_num, by omega, by first | rfl | trivial, HE⟩
          case measure => simp [intOf]; omega
      · have HE : Hid (d.get r = 0) := Lib.hid (by rw [HK.out, List.drop_of_length_le (by rw [List.length_tail]; have := Hls.out; omega)]; rfl)
        obtain rfl : k + 1 = ns := by omega
        go_wp2
        go_ret
        exact ⟨by rw [HE.out]; rfl, rfl⟩
  · go_enter Tryz.func25, Tryz.ntmps25
    go_wp2_with fail
    go_loopw [5] (fun v wr => ∃ k : Nat, v = .int .i64 (k + 1 : Nat) ∧ k + 1 ≤ ns ∧ wr = w ∧ Hid (d.get r = getGo 65533 (k + 1) (d.full.tail.drop k))) (fun v _ => ns - (intOf v).toNat)
    case atStart => exact ⟨0, rfl, by omega, rfl, by rw [List.drop_zero]; exact HG⟩
    case round =>
      obtain ⟨k, rfl, hk, rfl, HK⟩ := hrel
      by_cases hlt : k + 1 < ns
      · obtain ⟨s, Hs⟩ : ∃ s, Hid (d.full[k + 1]? = some s) := ⟨_, Lib.hid (List.getElem?_eq_getElem (show k + 1 < d.full.length by have := Hls.out; omega))⟩
        obtain ⟨⟨yA, yn, yc⟩, Hy⟩ : ∃ y, Hid (xs[k + 1]? = some y) := ⟨_, Lib.hid (List.getElem?_eq_getElem (show k + 1 < xs.length by omega))⟩
        have hoy : Own wr base 110 2 yA yn yc (s.map encR) := hX.hx.own (k + 1) (yA, yn, yc) s Hy.out Hs.out
        have hly : s.length = yn := by simpa using hoy.len
        have hsm := HF.out _ s Hs.out
        have hcell := hX.hs.cell' rfl Hy.out
        have HH := Lib.hid (sHas_any yA yn yc s 65533 wr (hoy.rd (by omega)) hly (by omega))
        have HD := Lib.hid (drop_at (show d.full.tail[k]? = some s by rw [List.getElem?_tail]; exact Hs.out))
        have hI : (k : Int) + 1 < ns := by omega
        rw [HD.out] at HK
        cases hv : hasB s 65533 with
        | true =>
          have HE := Lib.hid (HK.out.trans (getGo_hit hv))
          rw [hv] at HH
          clear hv hly
          go_wp2_with (go_at_call 69; refine HH.out.mono ?_; rintro e w2 ⟨rfl, rfl⟩)
          go_ret
          exact ⟨by rw [HE.out]; rfl, rfl⟩
        | false =>
          have HE := Lib.hid (HK.out.trans (getGo_miss hv))
          rw [hv] at HH
          clear hv hly
          go_wp2_with (go_at_call 69; refine HH.out.mono ?_; rintro e w2 ⟨rfl, rfl⟩)
          go_roundw
          case rel => exact ⟨k + 1, by go_num, by omega, by first | rfl | trivial, HE⟩
          case measure => simp [intOf]; omega
      · have HE : Hid (d.get r = 0) := Lib.hid (by rw [HK.out, List.drop_of_length_le (by rw [List.length_tail]; have := Hls.out; omega)]; rfl)
        obtain rfl : k + 1 = ns := by omega
        go_wp2
        go_ret
        exact ⟨by rw [HE.out]; rfl, rfl⟩
  · go_enter Tryz.func25, Tryz.ntmps25
    go_wp2_with fail
    go_loopw [5] (fun v wr => ∃ k : Nat, v = .int .i64 (k + 1 : Nat) ∧ k + 1 ≤ ns ∧ wr = w ∧ Hid (d.get q = getGo q (k + 1) (d.full.tail.drop k))) (fun v _ => ns - (intOf v).toNat)
    case atStart => exact ⟨0, rfl, by omega, rfl, by rw [List.drop_zero]; exact HG⟩
    case round =>
      obtain ⟨k, rfl, hk, rfl, HK⟩ := hrel
      by_cases hlt : k + 1 < ns
      · obtain ⟨s, Hs⟩ : ∃ s, Hid (d.full[k + 1]? = some s) := ⟨_, Lib.hid (List.getElem?_eq_getElem (show k + 1 < d.full.length by have := Hls.out; omega))⟩
        obtain ⟨⟨yA, yn, yc⟩, Hy⟩ : ∃ y, Hid (xs[k + 1]? = some y) := ⟨_, Lib.hid (List.getElem?_eq_getElem (show k + 1 < xs.length by omega))⟩
        have hoy : Own wr base 110 2 yA yn yc (s.map encR) := hX.hx.own (k + 1) (yA, yn, yc) s Hy.out Hs.out
        have hly : s.length = yn := by simpa using hoy.len
        have hsm := HF.out _ s Hs.out
        have hcell := hX.hs.cell' rfl Hy.out
        have HH := Lib.hid (sHas_any yA yn yc s q wr (hoy.rd (by omega)) hly (by omega))
        have HD := Lib.hid (drop_at (show d.full.tail[k]? = some s by rw [List.getElem?_tail]; exact Hs.out))
        have hI : (k : Int) + 1 < ns := by omega
        rw [HD.out] at HK
        cases hv : hasB s q with
        | true =>
          have HE := Lib.hid (HK.out.trans (getGo_hit hv))
          rw [hv] at HH
          clear hv hly
          go_wp2_with (go_at_call 69; refine HH.out.mono ?_; rintro e w2 ⟨rfl, rfl⟩)
          go_ret
          exact ⟨by rw [HE.out]; rfl, rfl⟩
        | false =>
          have HE := Lib.hid (HK.out.trans (getGo_miss hv))
          rw [hv] at HH
          clear hv hly
          go_wp2_with (go_at_call 69; refine HH.out.mono ?_; rintro e w2 ⟨rfl, rfl⟩)
          go_roundw
          case rel => exact ⟨k + 1, by go_num, by omega, by first | rfl | trivial, HE⟩
          case measure => simp [intOf]; omega
      · have HE : Hid (d.get q = 0) := Lib.hid (by rw [HK.out, List.drop_of_length_le (by rw [List.length_tail]; have := Hls.out; omega)]; rfl)
        obtain rfl : k + 1 = ns := by omega
        go_wp2
        go_ret
        exact ⟨by rw [HE.out]; rfl, rfl⟩
end Go.Proofs.YtdnkignhenkamaaGreatDoor

/- -/
namespace Go.Proofs.YtdnkignhenkamaaGreatDoor
open Go.RowKit Go.Maps
set_option maxRecDepth 100000 in
set_option maxHeartbeats 4000000 in
theorem vOf_any (base p x : Nat) (d : DbP) (s : ByteArray) (w : World) (h : RfB w base p x d.names d.full) (ho : d.Ok) (ha : Apart d.sets) (hs : s.size ≤ 1000000) :
    Calls Tryz.prog 65 #[.pointer (some ⟨p, 0, none⟩), .string s] w fun e w' => ∃ A n c, e = .returned (.slice A n c) ∧ Own w' w.heap.size 3 1 A n c ((ofC d s).map encN) ∧ Below w.heap.size w w' := by
  obtain ⟨i0, hi0, hz0, hz1, hz2⟩ := info_parts infoInt
  have HD := Lib.hid (And.intro h (And.intro ho ha))
  clear h ho ha
  go_enter Tryz.func65, Tryz.ntmps65
  go_wp2
  go_loopw [5] (fun v wr => ∃ (q f : Nat) (A1 : Option Addr) (n1 c1 : Nat) (o : List Nat), v = .slice A1 n1 c1 ∧ wr.heap[w.heap.size]? = some (.stringIter s q) ∧ Own wr (w.heap.size + 1) 3 1 A1 n1 c1 (o.map encN) ∧
      n1 ≤ q ∧ q ≤ s.size ∧ Hid (OfCAt d s f q o) ∧ Below w.heap.size w wr) (fun _ wr => s.size - wr.iterPos w.heap.size)
  case atStart => exact ⟨0, s.size, none, 0, 0, [], rfl, iter_new _ _ _, Own.nil_ _ _ _ _, by omega, by omega, ofCAt_first d s, below_iter (Below.refl _ _) (Nat.le_refl _) _ _⟩
  case round =>
    obtain ⟨q, f, A1, n1, c1, o, rfl, hit, ho, hn1, hps, HR, hb⟩ := hrel
    have hsz : w.heap.size < wr.heap.size := (Array.getElem?_eq_some_iff.1 hit).1
    have Hpos := Lib.hid (iterPos_of hit)
    by_cases hp : q < s.size
    · obtain ⟨⟨R, W⟩, HDc⟩ : ∃ d, Utf8.decode s q = d := ⟨_, rfl⟩
      have hd := dec_bd s q hp
      have hnx : ∀ ty, (Instr.next (.pointer (some ⟨w.heap.size, 0, none⟩)) true ty).run Tryz.prog wr = _ := fun ty => Lib.run_next_any_at wr w.heap.size s q ty hit hp
      have hit2 := Lib.iterAt_heap wr w.heap.size s q (q + (Utf8.decode s q).2) hit
      have hb2 := Lib.below_iterAt hb (k := w.heap.size) (Nat.le_refl _) s (q + (Utf8.decode s q).2)
      have ho2 := ho.iterAt (k := w.heap.size) (by omega) s (q + (Utf8.decode s q).2)
      have hsz2 : w.heap.size < (wr.iterAt w.heap.size s (q + (Utf8.decode s q).2)).heap.size := by rw [Lib.iterAt_size]; exact hsz
      rw [HDc] at hd hnx hit2 hb2 ho2 hsz2
      simp only at hd hnx hit2 hb2 ho2 hsz2
      obtain ⟨g, HA⟩ := ofCAt_add HR.out hp HDc (by omega)
      have HA := Lib.hid HA
      clear HR HDc
      generalize wr.iterAt w.heap.size s (q + W) = w2 at hnx hit2 hb2 ho2 hsz2
      have HG := Lib.hid (vGet_any base p x d R w2 (HD.out.1.below hb2) HD.out.2.1 HD.out.2.2)
      clear ho hb hit hsz
      go_wp2_with (first | (go_at_call 25; refine HG.out.mono ?_; rintro e w4 ⟨rfl, rfl⟩; have hit4 := hit2; have ho4 := ho2; have hbb := hb2; have hsz4 := hsz2) | (at_builtin; go_must (refine wpList_app rfl (.tmp 13) (.tmp 17) _ rfl (w.heap.size + 1) 3 i0 _ 1 8 Tryz.underlying23 hi0 hz0 hz1 hz2 rfl (by omega) A1 n1 c1 (o.map encN) rfl (ho4.alloc _) _ 1 1 [encN (d.get R)] rfl rfl (Rd.newAt (by simp) rfl) (encN_ok [d.get R]) (by unfold maxLen; omega) (by omega) (by simp; omega) ?_); intro A3 c3 w3 ho3 hg3 hA3; have hit3 := hg3.block w.heap.size (by simp; omega) (fun e => by cases A1 with | none => simp at e | some a => have := (ho4.lt a rfl).1; simp at e; omega); have hb3 := below_app (hbb.alloc (by omega) _) hg3 (by simp; omega) (fun a ha => by have := (ho4.lt a ha).1; omega); clear hg3))
      have hit5 : w3.heap[w.heap.size]? = some (.stringIter s (q + W)) := hit3.trans ((Below.heap_alloc _ _ _ hsz4).trans hit4)
      have Ho3 : Own w3 (w.heap.size + 1) 3 1 A3 (n1 + 1) c3 ((o ++ [d.get (R : Int)]).map encN) := by rw [List.map_append]; exact ho3
      clear hit3 ho3
      go_roundw
      case rel => exact ⟨q + W, g, A3, n1 + 1, c3, o ++ [d.get (R : Int)], rfl, hit5, Ho3, by omega, by omega, HA, hb3⟩
      case measure => rw [iterPos_of hit5, Hpos.out]; omega
    · have hnx : ∀ ty, (Instr.next (.pointer (some ⟨w.heap.size, 0, none⟩)) true ty).run Tryz.prog wr = _ := fun ty => Lib.run_next_end_at wr w.heap.size s q ty hit hp
      have HE := Lib.hid (ofCAt_end HR.out hp)
      go_wp2
      go_ret
      exact ⟨A1, n1, c1, rfl, by rw [← HE.out]; exact ho.more (by omega), hb⟩
end Go.Proofs.YtdnkignhenkamaaGreatDoor

/- -/
namespace Go.Proofs.YtdnkignhenkamaaGreatDoor
open Go.RowKit
structure BrkB (w : World) (base pb : Nat) (d : DbP) (rules : List RuleP) (rest : Bool) : Prop where
  ex : ∃ (p x n c : Nat) (A : Option Addr) (X : Nat → Prop), Blk w pb 43 #[.pointer (some ⟨p, 0, none⟩), .slice A n c, .bool rest] ∧ RfB w base p x d.names d.full ∧ RsX w X rules (A, n, c)
theorem BrkB.below {w w' : World} {base pb : Nat} {d : DbP} {rules : List RuleP} {rest : Bool} (h : BrkB w base pb d rules rest) (hb : Below w.heap.size w w') : BrkB w' base pb d rules rest := by
  obtain ⟨p, x, n, c, A, X, h1, h2, h3⟩ := h.ex
  exact ⟨p, x, n, c, A, X, h1.below hb, h2.below hb, h3.below hb⟩
theorem boundsB_len (rules : List RuleP) (rest : Bool) (c : List Nat) : (boundsB rules rest c).length ≤ c.length + 1 := by
  unfold boundsB
  split
  · simp
  · refine Nat.le_trans (List.length_filter_le _ _) ?_
    rw [List.length_range]; omega
theorem boundsB_lt {rules : List RuleP} {rest : Bool} {c : List Nat} {i x : Nat} (h : (boundsB rules rest c)[i]? = some x) : x ≤ c.length := by
  unfold boundsB at h
  split at h
  · simp at h
  · have := (List.mem_filter.1 (List.mem_of_getElem? h)).1
    rw [List.mem_range] at this
    omega
set_option maxRecDepth 100000 in
set_option maxHeartbeats 4000000 in
theorem bBounds_any (base pb : Nat) (d : DbP) (rules : List RuleP) (rest : Bool) (s : ByteArray) (w : World) (hB : BrkB w base pb d rules rest) (ho : d.Ok) (ha : Apart d.sets) (hok : ∀ r ∈ rules, RuleOk r) (hz : rules.length ≤ 64) (hs : s.size ≤ 90000) :
    Calls Tryz.prog 18 #[.pointer (some ⟨pb, 0, none⟩), .string s] w fun e w' => ∃ A k c, e = .returned (.slice A k c) ∧ Own w' w.heap.size 3 1 A k c ((boundsR rules rest d.get s).map encN) ∧ Below w.heap.size w w' := by
  obtain ⟨i0, hi0, hz0, hz1, hz2⟩ := info_parts infoInt
  by_cases h0 : s.size = 0
  · have HV := Lib.hid (show boundsR rules rest d.get s = [] from if_pos h0)
    have t0 : ((s.size : Int) == 0) = true := by rw [h0]; rfl
    rw [HV.out]
    clear h0
    go_enter Tryz.func18, Tryz.ntmps18
    go_wp2
    go_ret
    exact ⟨none, 0, 0, rfl, Own.nil_ _ _ _ _, Below.refl _ _⟩
  have t0 : ((s.size : Int) == 0) = false := beq_eq_false_iff_ne.2 (by omega)
  obtain ⟨p, x, n, c, A, X, hb, hd, hr⟩ := hB.ex
  have HE := Lib.hid (tEdges_any s w (by omega))
  obtain ⟨cl, HCl⟩ : ∃ cl, Hid (ofC d s = cl) := ⟨_, Lib.hid rfl⟩
  have hcz : cl.length ≤ 90000 := by rw [← HCl.out]; unfold ofC; rw [List.length_map]; exact Nat.le_trans (runesP_len s) hs
  have hc0 : 0 < cl.length := by
    rw [← HCl.out]; unfold ofC; rw [List.length_map]
    obtain ⟨k, hk1, hk2⟩ := runesGo_step (s := s) (f := s.size) (a := 0) (by omega) (by omega)
    unfold runesP
    rw [hk2]; simp
  have HV : Hid (boundsR rules rest d.get s = (boundsB rules rest cl).map fun i => (edgesP s).getD i 0) := Lib.hid (by rw [← HCl.out]; exact if_neg h0)
  have hel : (edgesP s).length = cl.length + 1 := by rw [← HCl.out]; unfold edgesP ofC; simp
  have HO := Lib.hid (fun W (h : Below w.heap.size w W) => vOf_any base p x d s W (hd.below h) ho ha (by omega))
  rw [HCl.out] at HO
  have HBo := Lib.hid (fun W b0 off0 c0 (h : Below w.heap.size w W) (hcc : cl.length ≤ c0) (hc : Rd W 1 (some ⟨b0, off0, none⟩) (cl.map encN)) => oBounds_any cl b0 off0 cl.length c0 rfl (by omega) hcc hc0 X rules rest (A, n, c) W (hr.below h) hok hz hc)
  unfold valRs at HBo
  have d0 := hb.cell 0
  have d1 := hb.cell 1
  have d2 := hb.cell 2
  simp only [List.getElem?_toArray, List.getElem?_cons_succ, List.getElem?_cons_zero] at d0 d1 d2
  have HD := Lib.hid (fun W (h : Below w.heap.size w W) => And.intro (cell_keep d0 h) (And.intro (cell_keep d1 h) (cell_keep d2 h)))
  obtain ⟨m, Hm⟩ : ∃ m, Hid (cl.length = m) := ⟨_, Lib.hid rfl⟩
  rw [Hm.out] at hcz hc0 HBo hel
  have Hel := Lib.hid hel
  clear h0 hB hb hd hr hel d0 d1 d2
  go_enter Tryz.func18, Tryz.ntmps18
  go_wp2_with fail
  refine HE.out.mono ?_
  rintro e w2 ⟨A2, k2, c2, rfl, ho2, hb2⟩
  obtain ⟨d0, d1, d2⟩ := HD.out w2 hb2
  have hb2d := hb2.drew
  have hk2 : (edgesP s).length = k2 := own_empty ho2
  have HEo := Lib.hid ho2
  have Hk2 := Lib.hid (show k2 = m + 1 by have := Hel.out; omega)
  clear HE ho2 hk2
  go_upto_region 4 with fail
  go_cut [6] from 14 to 24 (fun v wx => ∃ (A : Option Addr) (k c : Nat), v = .slice A k c ∧ Own wx w2.heap.size 3 1 A k c ((boundsB rules rest cl).map encN) ∧ Below w2.heap.size w2 wx)
  case first =>
    refine wp_region_noPanic ?_
    have hbW : Below w2.heap.size w2 w2.drew := (Below.refl _ _).drew
    go_region_law (first
      | (go_simp; go_at_call 65; refine (HO.out w2.drew hb2d).mono ?_; rintro e w4 ⟨A4, k4, c4, rfl, ho4, hb4⟩; have hbW := below_step hbW hb4 hbW.size; have d0 := cell_keep d0 hbW; have d1 := cell_keep d1 hbW; have d2 := cell_keep d2 hbW; obtain ⟨g4, rfl, hg4, hg5⟩ := ho4.form (by have := own_empty ho4; have := Hm.out; omega); obtain rfl : m = k4 := by (have := own_empty ho4; have := Hm.out; omega))
      | (go_simp; go_at_call 64; refine (HBo.out w4 g4 0 c4 (below_step hb2 hbW hb2.size) ho4.cap.1 (ho4.rd (by omega))).mono ?_; rintro e w5 ⟨A5, k5, c5, rfl, ho5, hb5⟩))
    all_goals
      refine NoPanic.normal ?_
      have hb25 := below_step hbW hb5 hbW.size
      have ho6 := ho5.more hbW.size
      go_wp2_with fail
      go_meet
      exact ⟨A5, k5, c5, rfl, ho6, hb25⟩
  case rest =>
    clear d0 d1 d2 hb2d HO HBo HD
    obtain ⟨A5, k5, c5, rfl, ho5, hb5⟩ := hcut
    have hbw5 := below_two hb2 hb5
    have hk5 : (boundsB rules rest cl).length = k5 := own_empty ho5
    have hrb := ho5.rd (by decide)
    have hre := (HEo.out.below hb5).rd (by decide)
    have HL := Lib.hid (fun i x (h : (boundsB rules rest cl)[i]? = some x) => boundsB_lt h)
    have hk5z : k5 ≤ 90001 := by have h1 := boundsB_len rules rest cl; have := Hm.out; omega
    rw [Hm.out] at HL
    generalize boundsB rules rest cl = BL at HL HV hrb hk5
    have Hk5 := Lib.hid hk5
    clear ho5 hk5
    go_wp2_with fail
    go_loopw [7, 8] (fun u v wr => ∃ (i k : Nat) (A1 : Option Addr), u = .slice A1 i k ∧ v = .int .i64 i ∧ i ≤ k5 ∧ Own wr wc.heap.size 3 1 A1 i k (((BL.take i).map fun i => (edgesP s).getD i 0).map encN) ∧ Below wc.heap.size wc wr) (fun _ v _ => k5 - (intOf v).toNat)
    case atStart => exact ⟨0, 0, none, rfl, rfl, by omega, Own.nil_ _ _ _ _, Below.refl _ _⟩
    case round =>
      obtain ⟨i, k, A1, rfl, rfl, hi, ho, hb⟩ := hrel
      have hsz := hb.size
      by_cases hlt : i < k5
      · obtain ⟨y, Hy⟩ : ∃ y, Hid (BL[i]? = some y) := ⟨_, Lib.hid (List.getElem?_eq_getElem (by have := Hk5.out; omega))⟩
        have hym := HL.out i y Hy.out
        obtain ⟨z, Hz⟩ : ∃ z, Hid ((edgesP s)[y]? = some z) := ⟨_, Lib.hid (List.getElem?_eq_getElem (by have := Hel.out; omega))⟩
        obtain ⟨b1, o1, rfl, x1⟩ := hrb.atNa Hy.out
        obtain ⟨b2, o2, rfl, x2⟩ := hre.atNa Hz.out
        replace x1 := cell_keep x1 hb
        replace x2 := cell_keep x2 hb
        have hyk : y < k2 := by have := Hk2.out; omega
        have HT := Lib.hid (show ((BL.take (i + 1)).map fun i => (edgesP s).getD i 0) = ((BL.take i).map fun i => (edgesP s).getD i 0) ++ [z] by
          rw [List.take_add_one, Hy.out, Option.toList_some, List.map_append]
          simp [List.getD_eq_getElem?_getD, Hz.out])
        go_wp2_with (at_builtin; go_must (refine wpList_app rfl (.tmp 31) (.tmp 39) _ rfl wc.heap.size 3 i0 _ 1 8 Tryz.underlying23 hi0 hz0 hz1 hz2 rfl (by omega) A1 i k _ rfl (ho.alloc _) _ 1 1 [encN z] rfl rfl (Rd.newAt (by simp) rfl) (encN_ok' [z]) (by unfold maxLen; omega) (by omega) (by simp; omega) ?_); intro A3 c3 w7 ho3 hg3 hA3)
        have hb7 := below_app (hb.alloc hsz (.cells #[.int .i64 (z : Int)] 3)) hg3 (by simp; omega) (fun a ha => (ho.lt a ha).1)
        go_roundw
        case rel => exact ⟨i + 1, c3, A3, rfl, by go_num, by omega, by rw [HT.out, List.map_append]; exact ho3, hb7⟩
        case measure => simp [intOf]; omega
      · obtain rfl : i = k5 := by omega
        have HT := Lib.hid (show BL.take i = BL from List.take_of_length_le (by have := Hk5.out; omega))
        rw [HT.out] at ho
        go_wp2
        go_ret
        exact ⟨A1, i, k, rfl, by rw [HV.out]; exact ho.more hbw5.size, below_two hbw5 hb⟩
end Go.Proofs.YtdnkignhenkamaaGreatDoor

/- -/
namespace Go.Proofs.YtdnkignhenkamaaGreatDoor
open Go.RowKit Go.Maps
theorem ret_pair {a b c d : Value} (h1 : a = c) (h2 : b = d) : Ending.returned (.tuple #[a, b]) = .returned (.tuple #[c, d]) := by rw [h1, h2]
set_option maxRecDepth 100000 in
set_option maxHeartbeats 2000000 in
theorem vcut_any (L : List UInt8) (w : World) (hL : L.length ≤ 1000000) :
    Calls Tryz.prog 133 #[.string (bytesOf L)] w fun e w' => e = .returned (.tuple #[.string (bytesOf (L.take (hashP L))), .int .i64 (fv (findP 59 (L.take (hashP L))))]) ∧ Below w.heap.size w w' := by
  have HIS := Lib.hid (cutD_is L)
  have hsz : (bytesOf L).size = L.length := bytesOf_size L
  go_enter Tryz.func133, Tryz.ntmps133
  go_wp2
  go_loopw [4, 5] (fun a v wr => ∃ (semi : Option Nat) (i : Nat), a = .int .i64 (fv semi) ∧ v = .int .i64 i ∧ i ≤ L.length ∧ Hid (CutAt L i semi) ∧ Below w.heap.size w wr) (fun _ v _ => L.length - (intOf v).toNat)
  case atStart => exact ⟨none, 0, rfl, rfl, by omega, cutAt_first L, Below.refl _ _⟩
  case round =>
    obtain ⟨semi, i, rfl, rfl, hi, HC, hb⟩ := hrel
    by_cases hlt : i < L.length
    · have HQ := Lib.hid (sQuoted_any (bytesOf L) i wr (by omega) (by omega))
      have hqq := quoted_qt (bytesOf L) i (by omega)
      rw [bytesOf_list] at hqq
      have hp : i < (bytesOf L).size := by omega
      have hix := index_at (bytesOf L) i i rfl hp
      obtain ⟨x, hx⟩ : ∃ x, (bytesOf L)[i]'hp = x := ⟨_, rfl⟩
      have Hx : Hid (L[i]? = some x) := Lib.hid (by have := get_list hp; rw [bytesOf_list, hx] at this; exact this)
      have hgi : (((bytesOf L)[i]'hp).toNat : Int) = (x.toNat : Int) := by rw [hx]
      rw [hx] at hix
      clear hx
      cases hq : qtL (L.drop i) with
      | some k =>
        rw [hq] at hqq
        obtain ⟨q1, q2⟩ := hqq
        have HC' := Lib.hid (cutAt_qt HC.out hq)
        have hik : i + k ≤ L.length := HC'.out.1
        generalize quotedP (bytesOf L) i = Q at HQ q1 q2
        obtain ⟨r, wd, ok⟩ := Q
        simp only at q1 q2
        subst q1
        have hk3 := (qtL_some hq).1
        clear hq
        go_wp2_with (go_at_call 170; refine HQ.out.mono ?_; rintro e w2 ⟨rfl, hb2⟩)
        go_roundw
        case rel => exact ⟨semi, i + k, rfl, by go_num, hik, HC', below_step hb hb2 hb.size⟩
        case measure => simp [intOf]; omega
      | none =>
        rw [hq] at hqq
        generalize quotedP (bytesOf L) i = Q at HQ hqq
        obtain ⟨r, wd, ok⟩ := Q
        simp only at hqq
        subst hqq
        have h35 : x = 35 ↔ (x.toNat : Int) = 35 := by have h1 : x = 35 ↔ x.toNat = 35 := u8_eq (n := 35) (by omega); rw [h1]; omega
        have h59 : x = 59 ↔ (x.toNat : Int) = 59 := by have h1 : x = 59 ↔ x.toNat = 59 := u8_eq (n := 59) (by omega); rw [h1]; omega
        have HH := Lib.hid (fun h => cutAt_hash HC.out Hx.out hq (h35.2 h))
        have HS := Lib.hid (fun h hs => cutAt_semi HC.out Hx.out hq (h59.2 h) hs)
        have HGo := Lib.hid (fun (h : ¬ (x.toNat : Int) = 35) (hs : ¬ ((x.toNat : Int) = 59 ∧ semi = none)) => cutAt_go HC.out Hx.out hq (fun k => h (h35.1 k)) (fun k => hs ⟨h59.1 k.1, k.2⟩))
        generalize (x.toNat : Int) = z at hix hgi HH HS HGo
        clear h35 h59 hq
        rcases (by omega : z = 35 ∨ z = 59 ∨ (z ≠ 35 ∧ z ≠ 59)) with hz | hz | ⟨hz, hz'⟩
        · have HE := HH.out hz
          rw [HIS.out] at HE
          injection HE with HE1 HE2
          have HE1 := Lib.hid HE1
          have HE2 := Lib.hid HE2
          have hzz : (z == 35) = true := by rw [hz]; rfl
          clear hz HH HS HGo
          go_wp2_with (go_at_call 170; refine HQ.out.mono ?_; rintro e w2 ⟨rfl, hb2⟩)
          go_ret2
          have h1 := ext_bytes0 L i
          rw [← HE1.out] at h1
          exact ⟨ret_pair (congrArg Value.string (by first | exact h1 | (rw [HE1.out] at h1 ⊢; exact h1) | rfl)) (congrArg (Value.int .i64) (by rw [HE2.out])), below_step hb hb2 hb.size⟩
        · have hzz : (z == 35) = false := by rw [hz]; rfl
          have hzy : (z == 59) = true := by rw [hz]; rfl
          cases semi with
          | none =>
            have HC' := Lib.hid (HS.out hz rfl)
            have hfn : decide (fv none < 0) = true := rfl
            clear hz HH HS HGo
            go_wp2_with (go_at_call 170; refine HQ.out.mono ?_; rintro e w2 ⟨rfl, hb2⟩)
            go_roundw
            case rel => exact ⟨some i, i + 1, rfl, by go_num, by omega, HC', below_step hb hb2 hb.size⟩
            case measure => simp [intOf]; omega
          | some k =>
            have HC' := Lib.hid (HGo.out (by omega) (fun h => by cases h.2))
            have hfn : decide (fv (some k) < 0) = false := decide_eq_false (by simp only [fv]; omega)
            clear hz HH HS HGo
            go_wp2_with (go_at_call 170; refine HQ.out.mono ?_; rintro e w2 ⟨rfl, hb2⟩)
            go_roundw
            case rel => exact ⟨some k, i + 1, rfl, by go_num, by omega, HC', below_step hb hb2 hb.size⟩
            case measure => simp [intOf]; omega
        · have hzz : (z == 35) = false := beq_eq_false_iff_ne.2 hz
          have hzy : (z == 59) = false := beq_eq_false_iff_ne.2 hz'
          have HC' := Lib.hid (HGo.out hz (fun h => hz' h.1))
          clear hz hz' HH HS HGo
          go_wp2_with (go_at_call 170; refine HQ.out.mono ?_; rintro e w2 ⟨rfl, hb2⟩)
          go_roundw
          case rel => exact ⟨semi, i + 1, rfl, by go_num, by omega, HC', below_step hb hb2 hb.size⟩
          case measure => simp [intOf]; omega
    · have HE := cutAt_end HC.out hlt
      rw [HIS.out] at HE
      injection HE with HE1 HE2
      have HE1 := Lib.hid HE1
      have HE2 := Lib.hid HE2
      go_wp2
      go_ret2
      exact ⟨ret_pair (congrArg Value.string (by rw [HE1.out, List.take_length]; try rfl)) (by rw [HE2.out]; try rfl), hb⟩
end Go.Proofs.YtdnkignhenkamaaGreatDoor

/- -/
namespace Go.Proofs.YtdnkignhenkamaaGreatDoor
open Go.RowKit Go.Maps
def hitR (x y : Int × Int) : Bool := decide (x.1 ≤ y.2) && decide (y.1 ≤ x.2)
theorem meetB_any (a b : List (Int × Int)) : meetB a b = a.any fun x => b.any fun y => hitR x y := rfl
theorem any_next {α : Type} {l : List α} {i : Nat} {x : α} {f : α → Bool} (h : (l.take i).any f = false) (hx : l[i]? = some x) (hf : f x = false) : (l.take (i + 1)).any f = false := by
  rw [List.take_add_one, hx]; simp [List.any_append, h, hf]
theorem any_hit {α : Type} {l : List α} {i : Nat} {x : α} {f : α → Bool} (hx : l[i]? = some x) (hf : f x = true) : l.any f = true := List.any_eq_true.2 ⟨x, List.mem_of_getElem? hx, hf⟩
theorem any_all {α : Type} {l : List α} {i : Nat} {f : α → Bool} (h : (l.take i).any f = false) (hi : ¬ i < l.length) : l.any f = false := by rwa [List.take_of_length_le (by omega)] at h
set_option maxRecDepth 100000 in
set_option maxHeartbeats 2000000 in
theorem vmeet_any (A B : Option Addr) (n c m e : Nat) (l q : List (Int × Int)) (w : World) (hA : Rd w 2 A (l.map encR)) (hB : Rd w 2 B (q.map encR)) (hl : l.length = n) (hq : q.length = m) (hn : n ≤ 4000000) (hm : m ≤ 4000000) :
    Calls Tryz.prog 139 #[.slice A n c, .slice B m e] w fun e w' => e = .returned (.bool (meetB l q)) ∧ ∃ k, w' = w.drewN k := by
  have Hl := Lib.hid hl
  have Hq := Lib.hid hq
  have HMB := Lib.hid (meetB_any l q)
  go_enter Tryz.func139, Tryz.ntmps139
  go_wp2
  go_loopw [5] (fun v wr => ∃ i k : Nat, v = .int .i64 i ∧ i ≤ n ∧ Hid ((l.take i).any (fun x => q.any fun y => hitR x y) = false) ∧ wr = w.drewN k) (fun v _ => n - (intOf v).toNat)
  case atStart => exact ⟨0, 0, rfl, by omega, by simp [Hid], rfl⟩
  case round =>
    obtain ⟨i, k, rfl, hi, HI, rfl⟩ := hrel
    by_cases hlt : i < n
    · obtain ⟨bA, oA, x1, x2, rfl, Hx, hx1, hx2⟩ := hA.atR (k := i) (by have := Hl.out; omega)
      have hdi : decide (i < n) = true := decide_eq_true hlt
      go_wp2_with fail
      go_loopw [6] (fun v wr => ∃ j k2 : Nat, v = .int .i64 j ∧ j ≤ m ∧ Hid ((q.take j).any (fun y => hitR (x1, x2) y) = false) ∧ wr = w.drewN k2) (fun v _ => m - (intOf v).toNat)
      case atStart => exact ⟨0, k, rfl, by omega, by simp [Hid], rfl⟩
      case round =>
        obtain ⟨j, k2, rfl, hj, HJ, rfl⟩ := hrel
        by_cases hltj : j < m
        · obtain ⟨bB, oB, y1, y2, rfl, Hy, hy1, hy2⟩ := hB.atR (k := j) (by have := Hq.out; omega)
          rcases (by omega : ¬ x1 ≤ y2 ∨ (x1 ≤ y2 ∧ ¬ y1 ≤ x2) ∨ (x1 ≤ y2 ∧ y1 ≤ x2)) with h1 | ⟨h1, h2⟩ | ⟨h1, h2⟩
          · have HJ' := Lib.hid (any_next HJ.out Hy.out (show hitR (x1, x2) (y1, y2) = false by simp [hitR, h1]))
            have hd1 : decide (x1 ≤ y2) = false := decide_eq_false h1
            go_wp2_with fail
            go_quiet (fail)
            go_wp2
            go_roundw
            case rel => exact ⟨j + 1, _, by go_num, by omega, HJ', by first | rfl | exact World.drewN_drewN _ _ _⟩
            case measure => simp [intOf]; omega
          · have HJ' := Lib.hid (any_next HJ.out Hy.out (show hitR (x1, x2) (y1, y2) = false by simp [hitR, h2]))
            have hd1 : decide (x1 ≤ y2) = true := decide_eq_true h1
            have hd2 : decide (y1 ≤ x2) = false := decide_eq_false h2
            go_wp2_with fail
            go_quiet (fail)
            go_wp2
            go_roundw
            case rel => exact ⟨j + 1, _, by go_num, by omega, HJ', by first | rfl | exact World.drewN_drewN _ _ _⟩
            case measure => simp [intOf]; omega
          · have HE : Hid (meetB l q = true) := Lib.hid (by rw [HMB.out]; exact any_hit Hx.out (any_hit Hy.out (show hitR (x1, x2) (y1, y2) = true by simp [hitR, h1, h2])))
            have hd1 : decide (x1 ≤ y2) = true := decide_eq_true h1
            have hd2 : decide (y1 ≤ x2) = true := decide_eq_true h2
            go_wp2_with fail
            go_quiet (fail)
            go_wp2
            go_ret
            exact ⟨by rw [HE.out]; rfl, _, by first | rfl | exact World.drewN_drewN _ _ _⟩
        · have HI' := Lib.hid (any_next HI.out Hx.out (any_all HJ.out (show ¬ j < q.length by have := Hq.out; omega)))
          go_wp2
          go_roundw
          case rel => exact ⟨i + 1, k2, by go_num, by omega, HI', rfl⟩
          case measure => simp [intOf]; omega
    · have HE : Hid (meetB l q = false) := Lib.hid (by rw [HMB.out]; exact any_all HI.out (show ¬ i < l.length by have := Hl.out; omega))
      go_wp2
      go_ret
      exact ⟨by rw [HE.out]; rfl, k, rfl⟩
end Go.Proofs.YtdnkignhenkamaaGreatDoor

