/-
  Several texts in one, in their build order: RefW, We, Wl, PtA, PtB, PtC, PtD, PtE, PtF, PtG.
-/
import Derived.Deep.DeepMust
import Derived.Laws.Bits64b
import Derived.Laws.ShiftsVarLaws
import Derived.WalkSmall
import Derived.RegionTactic
import Derived.BigRegion
import Derived.OwnWalk
import Derived.Deep.RegionHeld3
import Derived.Deep.RegionLaw
import Derived.Test.YtdnkignhenkamaaGreatDoorSRefV
import Derived.Test.YtdnkignhenkamaaGreatDoorSWc
import Derived.Test.YtdnkignhenkamaaGreatDoorS1a
import Derived.Test.YtdnkignhenkamaaGreatDoorSRefU
import Derived.Test.YtdnkignhenkamaaGreatDoorS0a
import Derived.Test.YtdnkignhenkamaaGreatDoorS2a
import Derived.Test.YtdnkignhenkamaaGreatDoorS1b
/- -/
namespace Go.Proofs.YtdnkignhenkamaaGreatDoor
open Go.RowKit
theorem notPrefix_cases {s : ByteArray} {a : Nat} (h : [85, 43].isPrefixOf (rest s a) = false) :
    s.size ≤ a + 1 ∨ (∃ h1 : a + 1 < s.size, (((s[a]'(by omega)).toNat : Int) == 85) = false) ∨ (∃ h1 : a + 1 < s.size, (((s[a]'(by omega)).toNat : Int) == 85) = true ∧ (((s[a + 1]'h1).toNat : Int) == 43) = false) := by
  by_cases h1 : a + 1 < s.size
  · rw [isPrefix_rest h1] at h
    by_cases h0 : s[a]'(by omega) = 85
    · refine .inr (.inr ⟨h1, by rw [h0]; rfl, ?_⟩)
      have : ¬ s[a + 1]'h1 = 43 := fun e => by rw [h0, e] at h; exact absurd h (by decide)
      have := byte_ne' (n := 43) this
      simpa using this
    · refine .inr (.inl ⟨h1, ?_⟩)
      have := byte_ne' (n := 85) h0
      simpa using this
  · exact .inl (by omega)
set_option maxRecDepth 100000 in
set_option maxHeartbeats 1600000 in
theorem sspelling_any (s : ByteArray) (a : Nat) (w : World) (ha : a ≤ s.size) (hs : s.size ≤ 1000000) :
    Calls Tryz.prog 173 #[.string s, .int .i64 a] w fun e w' => e = .returned (spellV (runeP s a)) ∧ Below w.heap.size w w' := by
  cases hp : [85, 43].isPrefixOf (rest s a) with
  | true =>
    have hl : a + 1 < s.size := by
      have := (List.isPrefixOf_iff_prefix.1 hp).length_le
      unfold rest at this; rw [List.length_drop, size_data] at this; simp at this; omega
    rw [isPrefix_rest hl] at hp
    simp only [Bool.and_eq_true, beq_iff_eq] at hp
    exact spell_num s a w hl hp.1.symm hp.2.symm hs
  | false =>
    have HN := Lib.hid (notPrefix_rest hp)
    rcases notPrefix_cases hp with h1 | ⟨h1, hq0⟩ | ⟨h1, hq0, hq1⟩
    all_goals
      clear hp
      go_enter Tryz.func173, Tryz.ntmps173
      go_wp2_with fail
      refine (sQuoted_any s a _ ha hs).mono ?_
      rintro e w1 ⟨rfl, hb1⟩
      obtain ⟨⟨r, wd, ok⟩, HQ⟩ : ∃ d, quotedP s a = d := ⟨_, rfl⟩
      rw [HQ]
      simp only
      cases ok with
      | false =>
        have HF : Hid (runeP s a = .error (21, a)) := Lib.hid (HN.out.trans (quoted_no HQ))
        clear HQ
        go_wp2
        refine bodyPost_ret (results_tmp4 rfl _ _ _) rfl ?_
        exact ⟨spell_err HF.out rfl, hb1⟩
      | true =>
        obtain ⟨hend, hw4, hr, hE⟩ := quoted_yes HQ
        have HE := Lib.hid (HN.out.trans hE)
        clear HQ hE
        by_cases hr9 : r = 65533
        · subst hr9
          by_cases hw1 : wd = 1
          · subst hw1
            have HF : Hid (runeP s a = .error (23, a + 1)) := Lib.hid (HE.out.trans (if_pos ⟨rfl, rfl⟩))
            go_wp2
            refine bodyPost_ret (results_tmp4 rfl _ _ _) rfl ?_
            exact ⟨spell_err HF.out rfl, hb1⟩
          · have HF : Hid (runeP s a = .ok (((65533 : Nat) : Int), a + wd + 2)) := Lib.hid (HE.out.trans (if_neg (fun h => hw1 h.2)))
            have hq : ((wd : Int) == 1) = false := by rw [beq_eq_false_iff_ne]; omega
            clear hw1
            go_wp2
            refine bodyPost_ret (results_tmp4 rfl _ _ _) rfl ?_
            exact ⟨spell_ok HF.out rfl, hb1⟩
        · have HF : Hid (runeP s a = .ok ((r : Int), a + wd + 2)) := Lib.hid (HE.out.trans (if_neg (fun h => hr9 h.1)))
          have hq : ((r : Int) == 65533) = false := by rw [beq_eq_false_iff_ne]; omega
          clear hr9
          go_wp2
          refine bodyPost_ret (results_tmp4 rfl _ _ _) rfl ?_
          exact ⟨spell_ok HF.out rfl, hb1⟩
end Go.Proofs.YtdnkignhenkamaaGreatDoor

/- -/
namespace Go.Proofs.YtdnkignhenkamaaGreatDoor
open Go.RowKit Go.Maps
theorem full_small {d : DbP} (h : d.Ok) (ha : Apart d.sets) {k : Nat} {s : List (Int × Int)} (hk : d.full[k]? = some s) : s.length ≤ 1114112 := by
  have h1 := full_lenS h ha
  obtain ⟨hlt, e⟩ := List.getElem?_eq_some_iff.1 hk
  have hd : d.full = d.full.take k ++ s :: d.full.drop (k + 1) := by rw [← e, ← List.drop_eq_getElem_cons hlt, List.take_append_drop]
  rw [hd, lenS_append] at h1
  have : lenS (s :: d.full.drop (k + 1)) = s.length + lenS (d.full.drop (k + 1)) := rfl
  omega
def ofC (d : DbP) (s : ByteArray) : List Nat := (runesP s).map fun x => d.get (x.1 : Int)
def encN (x : Nat) : List Value := [.int .i64 (x : Int)]
theorem encN_ok (l : List Nat) : ∀ y ∈ l.map encN, y.length = 1 ∧ ∀ u ∈ y, u.oneCell' = true := by
  intro y hy; obtain ⟨r, _, rfl⟩ := List.mem_map.1 hy
  exact ⟨rfl, by simp [encN, Value.oneCell']⟩
def OfCAt (d : DbP) (s : ByteArray) (f p : Nat) (o : List Nat) : Prop := (o ++ (runesGo s f p).map fun x => d.get (x.1 : Int)) = ofC d s ∧ s.size ≤ p + f ∧ p ≤ s.size
theorem ofCAt_first (d : DbP) (s : ByteArray) : OfCAt d s s.size 0 [] := ⟨by rw [List.nil_append]; rfl, by omega, by omega⟩
theorem ofCAt_add {d : DbP} {s : ByteArray} {f p R W : Nat} {o : List Nat} (h : OfCAt d s f p o) (hp : p < s.size) (hd : Utf8.decode s p = (R, W)) (hw : 1 ≤ W ∧ p + W ≤ s.size) : ∃ g, OfCAt d s g (p + W) (o ++ [d.get (R : Int)]) := by
  obtain ⟨g, rfl, hg⟩ := runesGo_step (s := s) (f := f) hp h.2.1
  rw [hd] at hg
  refine ⟨g, ?_, by have := h.2.1; omega, hw.2⟩
  rw [← h.1, hg]; simp
theorem ofCAt_end {d : DbP} {s : ByteArray} {f p : Nat} {o : List Nat} (h : OfCAt d s f p o) (hp : ¬ p < s.size) : o = ofC d s := by
  have := h.1
  rw [runesGo_end (by omega)] at this
  simpa using this
set_option maxRecDepth 100000 in
set_option maxHeartbeats 1000000 in
theorem wOf_any (p : Nat) (d : DbP) (s : ByteArray) (w : World) (h : DbAt w p d) (ho : d.Ok) (ha : Apart d.sets) (hs : s.size ≤ 1000000) :
    Calls Tryz.prog 60 #[.pointer (some ⟨p, 0, none⟩), .string s] w fun e w' => ∃ A n c, e = .returned (.slice A n c) ∧ Own w' w.heap.size 3 1 A n c ((ofC d s).map encN) ∧ Below w.heap.size w w' := by
  obtain ⟨i0, hi0, hz0, hz1, hz2⟩ := info_parts infoInt
  have HD := Lib.hid (And.intro h (And.intro ho ha))
  clear h ho ha
  go_enter Tryz.func60, Tryz.ntmps60
  go_wp2
  go_loopw [5] (fun v wr => ∃ (q f : Nat) (A1 : Option Addr) (n1 c1 : Nat) (o : List Nat), v = .slice A1 n1 c1 ∧ wr.heap[w.heap.size]? = some (.stringIter s q) ∧ Own wr (w.heap.size + 1) 3 1 A1 n1 c1 (o.map encN) ∧
      n1 ≤ q ∧ q ≤ s.size ∧ Hid (OfCAt d s f q o) ∧ Below w.heap.size w wr) (fun _ wr => s.size - wr.iterPos w.heap.size)
  case atStart => exact ⟨0, s.size, none, 0, 0, [], rfl, iter_new _ _ _, Own.nil_ _ _ _ _, by omega, by omega, ofCAt_first d s, below_iter (Below.refl _ _) (Nat.le_refl _) _ _⟩
  case round =>
    obtain ⟨q, f, A1, n1, c1, o, rfl, hit, ho, hn1, hps, HR, hb⟩ := hrel
    have hsz : w.heap.size < wr.heap.size := (Array.getElem?_eq_some_iff.1 hit).1
    have Hpos := Lib.hid (iterPos_of hit)
    by_cases hp : q < s.size
    · obtain ⟨⟨R, W⟩, HDc⟩ : ∃ d, Utf8.decode s q = d := ⟨_, rfl⟩
      have hd := dec_bd s q hp
      have hnx : ∀ ty, (Instr.next (.pointer (some ⟨w.heap.size, 0, none⟩)) true ty).run Tryz.prog wr = _ := fun ty => Lib.run_next_any_at wr w.heap.size s q ty hit hp
      have hit2 := Lib.iterAt_heap wr w.heap.size s q (q + (Utf8.decode s q).2) hit
      have hb2 := Lib.below_iterAt hb (k := w.heap.size) (Nat.le_refl _) s (q + (Utf8.decode s q).2)
      have ho2 := ho.iterAt (k := w.heap.size) (by omega) s (q + (Utf8.decode s q).2)
      have hsz2 : w.heap.size < (wr.iterAt w.heap.size s (q + (Utf8.decode s q).2)).heap.size := by rw [Lib.iterAt_size]; exact hsz
      rw [HDc] at hd hnx hit2 hb2 ho2 hsz2
      simp only at hd hnx hit2 hb2 ho2 hsz2
      obtain ⟨g, HA⟩ := ofCAt_add HR.out hp HDc (by omega)
      have HA := Lib.hid HA
      clear HR HDc
      generalize wr.iterAt w.heap.size s (q + W) = w2 at hnx hit2 hb2 ho2 hsz2
      have HG := Lib.hid (wGet_any p d R w2 (HD.out.1.below hb2) HD.out.2.1 HD.out.2.2)
      clear ho hb hit hsz
      go_wp2_with (first | (go_at_call 68; refine HG.out.mono ?_; rintro e w4 ⟨rfl, hb4⟩; have hit4 := (hb4.block _ hsz2).trans hit2; have ho4 := ho2.below hb4; have hbb := below_step hb2 hb4 hb2.size; have hsz4 := Nat.lt_of_lt_of_le hsz2 hb4.size; clear hit2 ho2 hb2) | (at_builtin; go_must (refine wpList_app rfl (.tmp 15) (.tmp 19) _ rfl (w.heap.size + 1) 3 i0 _ 1 8 Tryz.underlying23 hi0 hz0 hz1 hz2 rfl (by omega) A1 n1 c1 (o.map encN) rfl (ho4.alloc _) _ 1 1 [encN (d.get R)] rfl rfl (Rd.newAt (by simp) rfl) (encN_ok [d.get R]) (by unfold maxLen; omega) (by omega) (by simp; omega) ?_); intro A3 c3 w3 ho3 hg3 hA3; have hit3 := hg3.block w.heap.size (by simp; omega) (fun e => by cases A1 with | none => simp at e | some a => have := (ho4.lt a rfl).1; simp at e; omega); have hb3 := below_app (hbb.alloc (by omega) _) hg3 (by simp; omega) (fun a ha => by have := (ho4.lt a ha).1; omega); clear hg3))
      have hit5 : w3.heap[w.heap.size]? = some (.stringIter s (q + W)) := hit3.trans ((Below.heap_alloc _ _ _ hsz4).trans hit4)
      have Ho3 : Own w3 (w.heap.size + 1) 3 1 A3 (n1 + 1) c3 ((o ++ [d.get (R : Int)]).map encN) := by rw [List.map_append]; exact ho3
      clear hit3 ho3
      go_roundw
      case rel => exact ⟨q + W, g, A3, n1 + 1, c3, o ++ [d.get (R : Int)], rfl, hit5, Ho3, by omega, by omega, HA, hb3⟩
      case measure => rw [iterPos_of hit5, Hpos.out]; omega
    · have hnx : ∀ ty, (Instr.next (.pointer (some ⟨w.heap.size, 0, none⟩)) true ty).run Tryz.prog wr = _ := fun ty => Lib.run_next_end_at wr w.heap.size s q ty hit hp
      have HE := Lib.hid (ofCAt_end HR.out hp)
      go_wp2
      go_ret
      exact ⟨A1, n1, c1, rfl, by rw [← HE.out]; exact ho.more (by omega), hb⟩
end Go.Proofs.YtdnkignhenkamaaGreatDoor

/- -/
namespace Go.Proofs.YtdnkignhenkamaaGreatDoor
open Go.RowKit Go.Shelf Go.Maps
attribute [local go_sem] Oper.semAt_some
def KpB (m : Nat) (X : Nat → Prop) (A B : World) : Prop := RowKit.Below m A B ∧ KC 0 X A B
theorem KpB.refl (m : Nat) (X : Nat → Prop) (W : World) : KpB m X W W := ⟨RowKit.Below.refl _ _, KC.refl _ _ _⟩
theorem KpB.trans {m : Nat} {X : Nat → Prop} {A B C : World} (h : KpB m X A B) (k : KpB m X B C) : KpB m X A C := ⟨h.1.trans k.1, h.2.trans k.2⟩
theorem KpB.put {m : Nat} {X : Nat → Prop} {w : World} (hm : m ≤ w.heap.size) (W : World) (l : Nat) (o o' : Obj) (hl : w.heap.size ≤ l) (h : W.heap[l]? = some o) (hc : o.isCells = false) (hw : o.isWalk = false) : KpB m X W (W.putObj l o') :=
  ⟨belowK_b (w := w) hm W l o o' hl h hc hw, KC.put W l o o' h hc hw⟩
end Go.Proofs.YtdnkignhenkamaaGreatDoor

/- -/
namespace Go.Proofs.YtdnkignhenkamaaGreatDoor
open Go.RowKit
abbrev Sv := Option Addr × Nat × Nat
abbrev Pv := Nat × Sv × Sv
def encPt (v : Pv) : List Value := [.int .i64 (v.1 : Int), .slice v.2.1.1 v.2.1.2.1 v.2.1.2.2, .slice v.2.2.1 v.2.2.2.1 v.2.2.2.2]
structure SlX (w : World) (X : Nat → Prop) (s : Nat) (v : Sv) (cs : List (List Value)) : Prop where
  rd : Rd w s v.1 cs
  len : cs.length = v.2.1
  inn : ∀ a, v.1 = some a → X a.block ∧ a.block < w.heap.size
structure KeepX (X X' : Nat → Prop) (w w' : World) : Prop where
  size : w.heap.size ≤ w'.heap.size
  block : ∀ b, X b → b < w.heap.size → w'.heap[b]? = w.heap[b]?
  more : ∀ b, X b → b < w.heap.size → X' b
theorem KeepX.below {X : Nat → Prop} {w w' : World} (hb : Below w.heap.size w w') : KeepX X X w w' := ⟨hb.size, fun b _ h => hb.block b h, fun _ h _ => h⟩
theorem KeepX.grown {X : Nat → Prop} {w w' : World} {row : Option Nat} (hg : w.grownBy w' row) (hr : ∀ r, row = some r → ¬ X r) : KeepX X X w w' :=
  ⟨hg.size, fun b hb h => hg.block b h (fun e => hr b e.symm hb), fun _ h _ => h⟩
theorem KeepX.same {X X' : Nat → Prop} {w : World} (h : ∀ b, X b → b < w.heap.size → X' b) : KeepX X X' w w := ⟨Nat.le_refl _, fun _ _ _ => rfl, h⟩
theorem KeepX.trans {X Y Z : Nat → Prop} {a b c : World} (h : KeepX X Y a b) (k : KeepX Y Z b c) : KeepX X Z a c :=
  ⟨Nat.le_trans h.size k.size, fun i hi hl => (k.block i (h.more i hi hl) (Nat.lt_of_lt_of_le hl h.size)).trans (h.block i hi hl), fun i hi hl => k.more i (h.more i hi hl) (Nat.lt_of_lt_of_le hl h.size)⟩
theorem SlX.keep {X X' : Nat → Prop} {w w' : World} {s : Nat} {v : Sv} {cs : List (List Value)} (h : SlX w X s v cs) (k : KeepX X X' w w') : SlX w' X' s v cs :=
  ⟨h.rd.keep fun b off i u ha hc => by
      obtain ⟨h1, h2⟩ := h.inn _ ha
      have := k.block b h1 h2
      rw [← hc]
      simp [World.cell?, this],
    h.len, fun a ha => ⟨k.more _ (h.inn a ha).1 (h.inn a ha).2, Nat.lt_of_lt_of_le (h.inn a ha).2 k.size⟩⟩
theorem SlX.own {w : World} {base : Nat} {e : TypeId} {s : Nat} {A : Option Addr} {n c : Nat} {cs : List (List Value)} {X : Nat → Prop} (h : Own w base e s A n c cs) (hs : 0 < s) (hX : ∀ a, A = some a → X a.block) : SlX w X s (A, n, c) cs :=
  ⟨h.rd hs, h.len, fun a ha => ⟨hX a ha, (h.lt a ha).2⟩⟩
theorem SlX.nil_ (w : World) (X : Nat → Prop) (s : Nat) : SlX w X s (none, 0, 0) [] := ⟨Rd.nil_ _ _ _, rfl, fun a h => by cases h⟩
mutual
def PatX (w : World) (X : Nat → Prop) : Pat → Pv → Prop
  | .node op cs ks, v => v.1 = op ∧ SlX w X 1 v.2.1 (cs.map encN) ∧ ∃ vs, SlX w X 3 v.2.2 (vs.map encPt) ∧ PatsX w X ks vs
def PatsX (w : World) (X : Nat → Prop) : List Pat → List Pv → Prop
  | [], vs => vs = []
  | p :: ps, vs => ∃ v r, vs = v :: r ∧ PatX w X p v ∧ PatsX w X ps r
end
mutual
theorem PatX.keep {X X' : Nat → Prop} {w w' : World} (k : KeepX X X' w w') : ∀ {p : Pat} {v : Pv}, PatX w X p v → PatX w' X' p v
  | .node op cs ks, v, h => by
    simp only [PatX] at h ⊢
    obtain ⟨h1, h2, vs, h3, h4⟩ := h
    exact ⟨h1, h2.keep k, vs, h3.keep k, PatsX.keep k h4⟩
theorem PatsX.keep {X X' : Nat → Prop} {w w' : World} (k : KeepX X X' w w') : ∀ {ps : List Pat} {vs : List Pv}, PatsX w X ps vs → PatsX w' X' ps vs
  | [], vs, h => by simpa only [PatsX] using h
  | p :: ps, vs, h => by
    simp only [PatsX] at h ⊢
    obtain ⟨v, r, h1, h2, h3⟩ := h
    exact ⟨v, r, h1, PatX.keep k h2, PatsX.keep k h3⟩
end
theorem PatX.below {X : Nat → Prop} {w w' : World} {p : Pat} {v : Pv} (h : PatX w X p v) (hb : Below w.heap.size w w') : PatX w' X p v := h.keep (KeepX.below hb)
theorem PatsX.below {X : Nat → Prop} {w w' : World} {p : List Pat} {v : List Pv} (h : PatsX w X p v) (hb : Below w.heap.size w w') : PatsX w' X p v := h.keep (KeepX.below hb)
theorem PatsX.len {X : Nat → Prop} {w : World} : ∀ {ps : List Pat} {vs : List Pv}, PatsX w X ps vs → vs.length = ps.length
  | [], vs, h => by simp only [PatsX] at h; rw [h]; rfl
  | p :: ps, vs, h => by
    simp only [PatsX] at h
    obtain ⟨v, r, rfl, h2, h3⟩ := h
    simp [PatsX.len h3]
theorem PatsX.at_ {X : Nat → Prop} {w : World} : ∀ {ps : List Pat} {vs : List Pv} {k : Nat} {p : Pat}, PatsX w X ps vs → ps[k]? = some p → ∃ v, vs[k]? = some v ∧ PatX w X p v
  | [], vs, k, p, h, hk => by simp at hk
  | q :: ps, vs, k, p, h, hk => by
    simp only [PatsX] at h
    obtain ⟨v, r, rfl, h2, h3⟩ := h
    cases k with
    | zero => simp at hk; subst hk; exact ⟨v, by simp, h2⟩
    | succ k => simp at hk; obtain ⟨u, hu, hp⟩ := PatsX.at_ h3 hk; exact ⟨u, by simpa using hu, hp⟩
theorem PatsX.snoc {X : Nat → Prop} {w : World} {p : Pat} {v : Pv} (hp : PatX w X p v) : ∀ {ps : List Pat} {vs : List Pv}, PatsX w X ps vs → PatsX w X (ps ++ [p]) (vs ++ [v])
  | [], vs, h => by simp only [PatsX] at h; subst h; simp only [List.nil_append, PatsX]; exact ⟨v, [], rfl, hp, rfl⟩
  | q :: ps, vs, h => by
    simp only [PatsX] at h
    obtain ⟨u, r, rfl, h2, h3⟩ := h
    simp only [List.cons_append, PatsX]
    exact ⟨u, r ++ [v], rfl, h2, PatsX.snoc hp h3⟩
theorem encPt_ok (l : List Pv) : ∀ y ∈ l.map encPt, y.length = 3 ∧ ∀ u ∈ y, u.oneCell' = true := by
  intro y hy
  obtain ⟨x, _, rfl⟩ := List.mem_map.1 hy
  exact ⟨rfl, fun u hu => by simp [encPt] at hu; rcases hu with rfl | rfl | rfl <;> rfl⟩
theorem SlX.atPt {w : World} {X : Nat → Prop} {v : Sv} {l : List Pv} {k : Nat} {x : Pv} (h : SlX w X 3 v (l.map encPt)) (hk : l[k]? = some x) :
    ∃ b off, v.1 = some ⟨b, off, none⟩ ∧ w.cell? ⟨b, off + k * 3, none⟩ = some (.int .i64 (x.1 : Int)) ∧ w.cell? ⟨b, off + k * 3 + 1, none⟩ = some (.slice x.2.1.1 x.2.1.2.1 x.2.1.2.2) ∧ w.cell? ⟨b, off + k * 3 + 2, none⟩ = some (.slice x.2.2.1 x.2.2.2.1 x.2.2.2.2) := by
  obtain ⟨b, off, e, hc⟩ := h.rd (by intro e; cases l with | nil => simp at hk | cons _ _ => simp at e)
  have h0 := hc k 0 (encPt x) _ (by simp [hk]) rfl
  have h1 := hc k 1 (encPt x) _ (by simp [hk]) rfl
  have h2 := hc k 2 (encPt x) _ (by simp [hk]) rfl
  exact ⟨b, off, e, by simpa using h0, h1, h2⟩
def encW (x : Nat) : List Value := [.int .u64 (x : Int)]
theorem encW_ok (l : List Nat) : ∀ y ∈ l.map encW, y.length = 1 ∧ ∀ u ∈ y, u.oneCell' = true := by
  intro y hy
  obtain ⟨x, _, rfl⟩ := List.mem_map.1 hy
  exact ⟨rfl, fun u hu => by simp [encW] at hu; rcases hu with rfl; rfl⟩
def hasW (r : List Nat) (j : Nat) : Bool := (r.getD (j / 64) 0).testBit (j % 64)
def orW (a b : List Nat) : List Nat := List.zipWith (fun x y => x ||| y) a b
def setW (r : List Nat) (j : Nat) : List Nat := r.set (j / 64) (r.getD (j / 64) 0 ||| 2 ^ (j % 64))
structure Wide (k : Nat) (r : List Nat) : Prop where
  len : r.length = k
  lt : ∀ x ∈ r, x < 18446744073709551616
theorem Wide.at_ {k : Nat} {r : List Nat} (h : Wide k r) (i : Nat) : r.getD i 0 < 18446744073709551616 := by
  rw [List.getD_eq_getElem?_getD]
  cases hi : r[i]? with
  | none => simp
  | some x => exact h.lt x (List.mem_of_getElem? hi)
theorem Wide.zero (k : Nat) : Wide k (List.replicate k 0) := ⟨by simp, fun x hx => by rw [(List.mem_replicate.1 hx).2]; omega⟩
theorem hasW_zero (k j : Nat) : hasW (List.replicate k 0) j = false := by
  unfold hasW
  rw [List.getD_eq_getElem?_getD]
  cases hi : (List.replicate k 0)[j / 64]? with
  | none => simp
  | some x => rw [(List.mem_replicate.1 (List.mem_of_getElem? hi)).2]; simp
theorem orW_get (a b : List Nat) (h : a.length = b.length) (i : Nat) : (orW a b).getD i 0 = (a.getD i 0 ||| b.getD i 0) := by
  unfold orW
  rw [List.getD_eq_getElem?_getD, List.getD_eq_getElem?_getD, List.getD_eq_getElem?_getD, List.getElem?_zipWith]
  rcases Nat.lt_or_ge i a.length with hl | hl
  · rw [List.getElem?_eq_getElem hl, List.getElem?_eq_getElem (by omega : i < b.length)]; rfl
  · rw [List.getElem?_eq_none hl, List.getElem?_eq_none (by omega : b.length ≤ i)]; rfl
theorem hasW_or {a b : List Nat} (h : a.length = b.length) (j : Nat) : hasW (orW a b) j = (hasW a j || hasW b j) := by
  unfold hasW
  rw [orW_get a b h, Nat.testBit_or]
theorem Wide.or {k : Nat} {a b : List Nat} (ha : Wide k a) (hb : Wide k b) : Wide k (orW a b) := by
  refine ⟨by unfold orW; rw [List.length_zipWith, ha.len, hb.len, Nat.min_self], fun x hx => ?_⟩
  obtain ⟨i, hi, e⟩ := List.getElem_of_mem hx
  have h1 := orW_get a b (by rw [ha.len, hb.len]) i
  rw [List.getD_eq_getElem?_getD, List.getElem?_eq_getElem hi, e] at h1
  simp only [Option.getD_some] at h1
  rw [h1]
  exact Nat.or_lt_two_pow (n := 64) (ha.at_ i) (hb.at_ i)
theorem hasW_set {r : List Nat} {j : Nat} (h : j / 64 < r.length) (i : Nat) : hasW (setW r j) i = (hasW r i || decide (i = j)) := by
  unfold hasW setW
  rw [List.getD_eq_getElem?_getD, List.getD_eq_getElem?_getD, List.getD_eq_getElem?_getD, List.getElem?_set]
  by_cases e : j / 64 = i / 64
  · rw [if_pos e, if_pos h, Option.getD_some, Nat.testBit_or, e]
    congr 1
    rw [Nat.testBit_two_pow]
    exact decide_eq_decide.2 ⟨fun k => by omega, fun k => by omega⟩
  · rw [if_neg e, decide_eq_false (by rintro rfl; exact e rfl), Bool.or_false]
theorem Wide.set_ {k : Nat} {r : List Nat} (h : Wide k r) (j : Nat) : Wide k (setW r j) := by
  refine ⟨by unfold setW; rw [List.length_set, h.len], fun x hx => ?_⟩
  rcases List.mem_or_eq_of_mem_set hx with hx | rfl
  · exact h.lt x hx
  · exact Nat.or_lt_two_pow (n := 64) (h.at_ _) (Nat.pow_lt_pow_right (by omega) (Nat.mod_lt _ (by omega)))
end Go.Proofs.YtdnkignhenkamaaGreatDoor

/- -/
namespace Go.Proofs.YtdnkignhenkamaaGreatDoor
open Go.RowKit
structure MtR (w : World) (v : Sv) (n k : Nat) (C : List (List Nat)) : Prop where
  ex : ∃ rows : List Sv, Rd w 1 v.1 (rows.map encSl) ∧ rows.length = n ∧ v.2.1 = n ∧ C.length = n ∧ ∀ (i : Nat) (r : Sv) (x : List Nat), rows[i]? = some r → C[i]? = some x → Rd w 1 r.1 (x.map encW) ∧ r.2.1 = k ∧ Wide k x
theorem MtR.below {w w' : World} {v : Sv} {n k : Nat} {C : List (List Nat)} (h : MtR w v n k C) (hb : Below w.heap.size w w') : MtR w' v n k C := by
  obtain ⟨rows, h1, h2, h3, h4, h5⟩ := h.ex
  exact ⟨rows, h1.below hb, h2, h3, h4, fun i r x hr hx => ⟨(h5 i r x hr hx).1.below hb, (h5 i r x hr hx).2⟩⟩
theorem MtR.size {w : World} {v : Sv} {n k : Nat} {C : List (List Nat)} (h : MtR w v n k C) : v.2.1 = n := by obtain ⟨rows, h1, h2, h3, h4, h5⟩ := h.ex; exact h3
theorem MtR.len {w : World} {v : Sv} {n k : Nat} {C : List (List Nat)} (h : MtR w v n k C) : C.length = n := by obtain ⟨rows, h1, h2, h3, h4, h5⟩ := h.ex; exact h4
theorem MtR.at_ {w : World} {v : Sv} {n k i : Nat} {C : List (List Nat)} (h : MtR w v n k C) (hi : i < n) :
    ∃ b off B c x, v.1 = some ⟨b, off, none⟩ ∧ w.cell? ⟨b, off + i, none⟩ = some (.slice B k c) ∧ C[i]? = some x ∧ C.getD i [] = x ∧ Rd w 1 B (x.map encW) ∧ Wide k x := by
  obtain ⟨rows, h1, h2, h3, h4, h5⟩ := h.ex
  obtain ⟨r, hr⟩ : ∃ r, rows[i]? = some r := ⟨_, List.getElem?_eq_getElem (by omega)⟩
  obtain ⟨x, hx⟩ : ∃ x, C[i]? = some x := ⟨_, List.getElem?_eq_getElem (by omega)⟩
  obtain ⟨b, off, e, hc⟩ := h1 (by intro e; have := congrArg List.length e; rw [List.length_map, h2] at this; simp at this; omega)
  obtain ⟨g1, g2, g3⟩ := h5 i _ _ hr hx
  have h0 := hc i 0 (encSl r) (.slice r.1 r.2.1 r.2.2) (by simp [hr]) rfl
  rw [g2] at h0
  exact ⟨b, off, _, _, _, e, by simpa using h0, hx, by rw [List.getD_eq_getElem?_getD, hx]; rfl, g1, g3⟩
structure MtO (w : World) (base : Nat) (A : Option Addr) (n c k : Nat) (rows : List Sv) (C : List (List Nat)) : Prop where
  sl : Own w base 190 1 A n c (rows.map encSl)
  len : C.length = n
  row : ∀ (i : Nat) (r : Sv) (x : List Nat), rows[i]? = some r → C[i]? = some x → Own w base 215 1 r.1 r.2.1 r.2.2 (x.map encW) ∧ Wide k x
  apart : ∀ (i j : Nat) (r q : Sv) (a b : Addr), rows[i]? = some r → rows[j]? = some q → r.1 = some a → q.1 = some b → a.block = b.block → i = j
theorem types_mt : (190 : TypeId) ≠ 215 := by decide
section
variable {w w' : World} {base n c k : Nat} {A : Option Addr} {rows : List Sv} {C : List (List Nat)}
theorem MtO.rlen (h : MtO w base A n c k rows C) : rows.length = n := by have := h.sl.len; rwa [List.length_map] at this
theorem MtO.below (h : MtO w base A n c k rows C) (hb : Below w.heap.size w w') : MtO w' base A n c k rows C :=
  ⟨h.sl.below hb, h.len, fun i r x hr hx => ⟨(h.row i r x hr hx).1.below hb, (h.row i r x hr hx).2⟩, h.apart⟩
theorem MtO.more {b' : Nat} (h : MtO w base A n c k rows C) (hb : b' ≤ base) : MtO w b' A n c k rows C :=
  ⟨h.sl.more hb, h.len, fun i r x hr hx => ⟨(h.row i r x hr hx).1.more hb, (h.row i r x hr hx).2⟩, h.apart⟩
theorem MtO.nil_ (w : World) (base k : Nat) : MtO w base none 0 0 k [] [] := ⟨Own.nil_ _ _ _ _, rfl, fun i r x h => by simp at h, fun i j r q a b h => by simp at h⟩
theorem MtO.rd (h : MtO w base A n c k rows C) : MtR w (A, n, c) n k C :=
  ⟨rows, h.sl.rd (by omega), h.rlen, rfl, h.len, fun i r x hr hx => ⟨(h.row i r x hr hx).1.rd (by omega), by
    have h1 := (h.row i r x hr hx).1.len
    have h2 := (h.row i r x hr hx).2.len
    rw [List.length_map] at h1
    omega, (h.row i r x hr hx).2⟩⟩
theorem MtO.at_ {i : Nat} (h : MtO w base A n c k rows C) (hi : i < n) (hk : 0 < k) :
    ∃ b g d x, A = some ⟨b, 0, none⟩ ∧ rows[i]? = some (some ⟨g, 0, none⟩, k, d) ∧ w.cell? ⟨b, i, none⟩ = some (.slice (some ⟨g, 0, none⟩) k d) ∧ C[i]? = some x ∧ C.getD i [] = x ∧ Own w base 215 1 (some ⟨g, 0, none⟩) k d (x.map encW) ∧ Wide k x := by
  obtain ⟨b, rfl, hb, _⟩ := h.sl.form (by omega)
  obtain ⟨r, hr⟩ : ∃ r, rows[i]? = some r := ⟨_, List.getElem?_eq_getElem (by have := h.rlen; omega)⟩
  obtain ⟨x, hx⟩ : ∃ x, C[i]? = some x := ⟨_, List.getElem?_eq_getElem (by have := h.len; omega)⟩
  obtain ⟨g1, g2⟩ := h.row i _ _ hr hx
  have hl : r.2.1 = k := by have h1 := g1.len; rw [List.length_map, g2.len] at h1; exact h1.symm
  obtain ⟨r1, r2, r3⟩ := r
  simp only at g1 hl
  subst hl
  obtain ⟨g, rfl, _, _⟩ := g1.form hk
  have h0 := h.sl.cell (k := i) (j := 0) (x := encSl (some ⟨g, 0, none⟩, r2, r3)) (u := .slice (some ⟨g, 0, none⟩) r2 r3) (by simp [hr]) rfl
  exact ⟨b, g, r3, _, rfl, hr, by simpa using h0, hx, by rw [List.getD_eq_getElem?_getD, hx]; rfl, g1, g2⟩
theorem MtO.snoc {w3 : World} {A3 : Option Addr} {c3 : Nat} {o : Obj} {r : Sv} {x : List Nat} (h : MtO w base A n c k rows C) (hr : Own w base 215 1 r.1 r.2.1 r.2.2 (x.map encW)) (hx : Wide k x)
    (hf : ∀ (i : Nat) (q : Sv) (a b : Addr), rows[i]? = some q → q.1 = some a → r.1 = some b → a.block ≠ b.block)
    (ho3 : Own w3 base 190 1 A3 (n + 1) c3 ((rows ++ [r]).map encSl)) (hg3 : (w.alloc o).grownBy w3 (A.map (·.block))) : MtO w3 base A3 (n + 1) c3 k (rows ++ [r]) (C ++ [x]) := by
  have hg : w.grownBy w3 (A.map (·.block)) := grown_alloc hg3
  have keep : ∀ {r : Sv} {x : List Nat}, Own w base 215 1 r.1 r.2.1 r.2.2 (x.map encW) → Own w3 base 215 1 r.1 r.2.1 r.2.2 (x.map encW) := fun h1 => h1.grown hg (fun a ha e => by
    cases hA : A with
    | none => rw [hA] at e; cases e
    | some b => rw [hA] at e; simp at e; exact h.sl.apart h1 types_mt b a hA ha e.symm)
  have hl := h.rlen
  refine ⟨ho3, by simp [h.len], fun i q y hq hy => ?_, fun i j q z a b hq hz ha hb e => ?_⟩
  · rcases Nat.lt_trichotomy i n with hi | hi | hi
    · rw [List.getElem?_append_left (by omega)] at hq
      rw [List.getElem?_append_left (by have := h.len; omega)] at hy
      exact ⟨keep (h.row i q y hq hy).1, (h.row i q y hq hy).2⟩
    · rw [List.getElem?_append_right (by omega), hi, hl, Nat.sub_self] at hq
      rw [List.getElem?_append_right (by have := h.len; omega), hi, h.len, Nat.sub_self] at hy
      simp at hq hy
      subst hq; subst hy
      exact ⟨keep hr, hx⟩
    · rw [List.getElem?_eq_none (by simp; omega)] at hq; cases hq
  · have hlt : ∀ {i : Nat} {q : Sv}, (rows ++ [r])[i]? = some q → (i < n ∧ rows[i]? = some q) ∨ (i = n ∧ q = r) := fun {i q} hq => by
      rcases Nat.lt_trichotomy i n with hi | hi | hi
      · rw [List.getElem?_append_left (by omega)] at hq; exact .inl ⟨hi, hq⟩
      · rw [List.getElem?_append_right (by omega), hi, hl, Nat.sub_self] at hq; simp at hq; exact .inr ⟨hi, hq.symm⟩
      · rw [List.getElem?_eq_none (by simp; omega)] at hq; cases hq
    rcases hlt hq with ⟨hi, kq⟩ | ⟨hi, eq_⟩ <;> rcases hlt hz with ⟨hj, kz⟩ | ⟨hj, ez⟩
    · exact h.apart i j q z a b kq kz ha hb e
    · subst ez; exact absurd e (hf i q a b kq ha hb)
    · subst eq_; exact absurd e.symm (hf j z b a kz hb ha)
    · omega
theorem MtO.wrote {i g d : Nat} {x : List Nat} (h : MtO w base A n c k rows C) (hr : rows[i]? = some (some ⟨g, 0, none⟩, k, d)) (hg : w.grownBy w' (some g)) (ho : Own w' base 215 1 (some ⟨g, 0, none⟩) k d (x.map encW)) (hx : Wide k x) :
    MtO w' base A n c k rows (C.set i x) := by
  have hl := h.rlen
  have hi : i < n := by have := (List.getElem?_eq_some_iff.1 hr).1; omega
  obtain ⟨y, hC⟩ : ∃ y, C[i]? = some y := ⟨_, List.getElem?_eq_getElem (by have := h.len; omega)⟩
  have hrow := (h.row i _ _ hr hC).1
  refine ⟨h.sl.grown hg (fun a ha e => h.sl.apart hrow types_mt a ⟨g, 0, none⟩ ha rfl (by injection e)), by rw [List.length_set]; exact h.len, fun j q y hq hy => ?_, h.apart⟩
  by_cases e : i = j
  · subst e
    rw [hr] at hq
    injection hq with hq
    subst hq
    rw [List.getElem?_set_self (by have := h.len; omega)] at hy
    injection hy with hy
    subst hy
    exact ⟨ho, hx⟩
  · rw [List.getElem?_set_ne e] at hy
    obtain ⟨h1, h2⟩ := h.row j q y hq hy
    exact ⟨h1.grown hg (fun a ha e2 => e (h.apart i j _ _ ⟨g, 0, none⟩ a hr hq rfl ha (by injection e2 with e2; exact e2.symm))), h2⟩
end
def BitsM (n : Nat) (C : List (List Nat)) (m : Mtx) : Prop := ∀ i j, i < n → j < n → hasW (C.getD i []) j = m i j
theorem getD_set {α : Type} {C : List α} {i j : Nat} {x d : α} (h : i < C.length) : (C.set i x).getD j d = if i = j then x else C.getD j d := by
  rw [List.getD_eq_getElem?_getD, List.getD_eq_getElem?_getD, List.getElem?_set]
  by_cases e : i = j
  · rw [if_pos e, if_pos h, if_pos e]; rfl
  · rw [if_neg e, if_neg e]
end Go.Proofs.YtdnkignhenkamaaGreatDoor

/- -/
namespace Go.Proofs.YtdnkignhenkamaaGreatDoor
open Go.RowKit
theorem Rd.atW {w : World} {A : Option Addr} {l : List Nat} {k x : Nat} (h : Rd w 1 A (l.map encW)) (hk : l[k]? = some x) : ∃ b off, A = some ⟨b, off, none⟩ ∧ w.cell? ⟨b, off + k, none⟩ = some (.int .u64 (x : Nat)) := by
  obtain ⟨b, off, rfl, hc⟩ := h (by intro e; cases l with | nil => simp at hk | cons _ _ => simp at e)
  have h0 := hc k 0 (encW x) (.int .u64 (x : Nat)) (by simp [hk]) rfl
  exact ⟨b, off, rfl, by simpa using h0⟩
theorem bits_test (y m : Nat) (h : y < 18446744073709551616) : (bits BinOp.and IntKind.u64 ((y : Int) / 2 ^ m) 1 == (1 : Int)) = y.testBit m := by
  have e : (y : Int) / 2 ^ m = ((y / 2 ^ m : Nat) : Int) := by simp
  have hle : y / 2 ^ m ≤ y := Nat.div_le_self _ _
  rw [e, Nat.testBit_eq_decide_div_mod_eq]
  generalize y / 2 ^ m = z at hle ⊢
  rw [and_one_u64 _ (by omega) (by omega), Bool.eq_iff_iff, beq_iff_eq, decide_eq_true_iff]
  omega
set_option maxRecDepth 100000 in
set_option maxHeartbeats 1000000 in
theorem jhas_any (A : Option Addr) (n c i : Nat) (x : List Nat) (w : World) (hA : Rd w 1 A (x.map encW)) (hx : Wide n x) (hi : i / 64 < n) (hz : i ≤ 4000000) :
    Calls Tryz.prog 180 #[.slice A n c, .int .i64 i] w fun e w' => e = .returned (.bool (hasW x i)) ∧ w = w' := by
  obtain ⟨y, hy⟩ : ∃ y, x[i / 64]? = some y := ⟨_, List.getElem?_eq_getElem (by have := hx.len; omega)⟩
  have HV : Hid (hasW x i = y.testBit (i % 64)) := Lib.hid (by unfold hasW; rw [List.getD_eq_getElem?_getD, hy]; rfl)
  have hlt := hx.lt y (List.mem_of_getElem? hy)
  obtain ⟨b, off, rfl, hc⟩ := hA.atW hy
  obtain ⟨d, hd⟩ : ∃ d, i / 64 = d := ⟨_, rfl⟩
  obtain ⟨m, hm⟩ : ∃ m, i % 64 = m := ⟨_, rfl⟩
  have q1 : Int.tdiv (i : Int) 64 = (d : Int) := by subst hd; rfl
  have q2 : Int.tmod (i : Int) 64 = (m : Int) := by subst hm; rfl
  have hm64 : m < 64 := by omega
  have hdz : d < n := by omega
  have hdz2 : d ≤ 4000000 := by omega
  rw [hm] at HV
  rw [hd] at hc
  clear hd hm hy hi
  go_enter Tryz.func180, Tryz.ntmps180
  go_wp2
  go_ret
  exact ⟨by rw [HV.out, ← bits_test y m hlt]; rfl, rfl⟩
set_option maxRecDepth 100000 in
set_option maxHeartbeats 1000000 in
theorem jset_any (base g n c i : Nat) (x : List Nat) (w : World) (hA : Own w base 215 1 (some ⟨g, 0, none⟩) n c (x.map encW)) (hx : Wide n x) (hi : i / 64 < n) (hz : i ≤ 4000000) :
    Calls Tryz.prog 212 #[.slice (some ⟨g, 0, none⟩) n c, .int .i64 i] w fun e w' => e = .returned (.tuple #[]) ∧ Own w' base 215 1 (some ⟨g, 0, none⟩) n c ((setW x i).map encW) ∧ w.grownBy w' (some g) := by
  obtain ⟨y, hy⟩ : ∃ y, x[i / 64]? = some y := ⟨_, List.getElem?_eq_getElem (by have := hx.len; omega)⟩
  have HV : Hid (setW x i = x.set (i / 64) (y ||| 2 ^ (i % 64))) := Lib.hid (by unfold setW; rw [List.getD_eq_getElem?_getD, hy]; rfl)
  have hlt := hx.lt y (List.mem_of_getElem? hy)
  have hc := hA.cell (k := i / 64) (j := 0) (x := encW y) (u := .int .u64 (y : Nat)) (by simp [hy]) rfl
  have hf := hA.frozen (i / 64)
  have hO := Lib.hid (fun v => hA.stored (k := i / 64) (j := 0) (x := encW y) (by simp [hy]) (by omega) v)
  obtain ⟨d, hd⟩ : ∃ d, i / 64 = d := ⟨_, rfl⟩
  obtain ⟨m, hm⟩ : ∃ m, i % 64 = m := ⟨_, rfl⟩
  have q1 : Int.tdiv (i : Int) 64 = (d : Int) := by subst hd; rfl
  have q2 : Int.tmod (i : Int) 64 = (m : Int) := by subst hm; rfl
  have hm64 : m < 64 := by omega
  have hdz : d < n := by omega
  have hdz2 : d ≤ 4000000 := by omega
  rw [hm] at HV
  simp only [Nat.mul_one, Nat.add_zero] at hc hO
  rw [hd] at hc hf hO HV
  clear hd hm hi
  go_enter Tryz.func212, Tryz.ntmps212
  go_wp2
  go_end0
  have hw : IntKind.u64.wrap ((2 : Int) ^ m) = ((2 ^ m : Nat) : Int) := by
    have h2 : 2 ^ m < 18446744073709551616 := Nat.pow_lt_pow_right (a := 2) (m := m) (n := 64) (by omega) hm64
    have e : ((2 : Int) ^ m) = ((2 ^ m : Nat) : Int) := by simp
    rw [e]
    generalize 2 ^ m = z at h2 ⊢
    rw [IntKind.wrap_u64]; omega
  have h2 : 2 ^ m < 18446744073709551616 := Nat.pow_lt_pow_right (a := 2) (m := m) (n := 64) (by omega) hm64
  rw [hw, bits_or_u64_nat y (2 ^ m) hlt h2]
  refine ⟨rfl, ?_, only_setCell (only_refl _ _) (.inl rfl) _⟩
  rw [HV.out, List.map_set]
  exact hO.out _
def orTo (i : Nat) (x y : List Nat) : List Nat := (orW x y).take i ++ x.drop i
theorem orTo_all {k : Nat} {x y : List Nat} (hx : Wide k x) (hy : Wide k y) : orTo k x y = orW x y := by
  unfold orTo
  rw [List.take_of_length_le (by rw [(hx.or hy).len]; omega), List.drop_of_length_le (by rw [hx.len]; omega), List.append_nil]
theorem orTo_at {k i : Nat} {x y : List Nat} {a b : Nat} (hx : Wide k x) (hy : Wide k y) (ha : x[i]? = some a) (hb : y[i]? = some b) : (orTo i x y)[i]? = some a ∧ (orTo i x y).set i (a ||| b) = orTo (i + 1) x y := by
  have hi : i < k := by have := (List.getElem?_eq_some_iff.1 ha).1; rw [hx.len] at this; exact this
  have hl : ((orW x y).take i).length = i := by rw [List.length_take, (hx.or hy).len]; omega
  have ho : (orW x y)[i]? = some (a ||| b) := by unfold orW; rw [List.getElem?_zipWith, ha, hb]
  have hd : x.drop i = a :: x.drop (i + 1) := by
    obtain ⟨h1, h2⟩ := List.getElem?_eq_some_iff.1 ha
    rw [List.drop_eq_getElem_cons h1, h2]
  unfold orTo
  constructor
  · rw [List.getElem?_append_right (by omega), hl, Nat.sub_self, hd]; rfl
  · rw [List.set_append_right _ _ (by omega), hl, Nat.sub_self, hd, List.set_cons_zero, List.take_add_one, ho, List.append_assoc]; rfl
set_option maxRecDepth 100000 in
set_option maxHeartbeats 2000000 in
theorem jadd_any (base g n c m d : Nat) (B : Option Addr) (x y : List Nat) (w : World) (hA : Own w base 215 1 (some ⟨g, 0, none⟩) n c (x.map encW)) (hx : Wide n x) (hB : Rd w 1 B (y.map encW)) (hy : Wide n y)
    (hg : ∀ a, B = some a → a.block ≠ g) (hm : m = n) (hn : n ≤ 4000000) :
    Calls Tryz.prog 239 #[.slice (some ⟨g, 0, none⟩) n c, .slice B m d] w fun e w' => e = .returned (.tuple #[]) ∧ Own w' base 215 1 (some ⟨g, 0, none⟩) n c ((orW x y).map encW) ∧ w.grownBy w' (some g) := by
  subst hm
  have HE := Lib.hid (orTo_all hx hy)
  go_enter Tryz.func239, Tryz.ntmps239
  go_wp2
  go_loopw [4] (fun v wr => ∃ i : Nat, v = .int .i64 i ∧ i ≤ m ∧ Own wr base 215 1 (some ⟨g, 0, none⟩) m c ((orTo i x y).map encW) ∧ Rd wr 1 B (y.map encW) ∧ w.grownBy wr (some g)) (fun v _ => m - (intOf v).toNat)
  case atStart => exact ⟨0, rfl, by omega, hA, hB, only_refl _ _⟩
  case round =>
    obtain ⟨i, rfl, hi, ho, hb, hgr⟩ := hrel
    by_cases hlt : i < m
    · obtain ⟨a, ha⟩ : ∃ a, x[i]? = some a := ⟨_, List.getElem?_eq_getElem (by have := hx.len; omega)⟩
      obtain ⟨b, hb'⟩ : ∃ b, y[i]? = some b := ⟨_, List.getElem?_eq_getElem (by have := hy.len; omega)⟩
      have haz := hx.lt a (List.mem_of_getElem? ha)
      have hbz := hy.lt b (List.mem_of_getElem? hb')
      obtain ⟨e1, e2⟩ := orTo_at hx hy ha hb'
      have E2 := Lib.hid e2
      have E3 := Lib.hid e1
      have c1 := ho.cell (k := i) (j := 0) (x := encW a) (u := .int .u64 (a : Nat)) (by simp [e1]) rfl
      have f1 := ho.frozen i
      obtain ⟨bk, off, rfl, c2⟩ := hb.atW hb'
      simp only [Nat.mul_one, Nat.add_zero] at c1
      have hor := bits_or_u64_nat a b haz hbz
      clear ha hb' e1 e2 haz hbz
      go_wp2_with fail
      go_region
      go_wp2
      go_roundw
      case rel =>
        refine ⟨i + 1, by go_num, by omega, ?_, (hb.setCell (p := ⟨g, i, none⟩) (fun a ha => hg a ha) _).drew, only_drew (only_setCell hgr (.inl rfl) _)⟩
        have h1 := (ho.stored (k := i) (j := 0) (x := encW a) (by rw [List.getElem?_map, E3.out]; rfl) (by omega) (.int .u64 ((a ||| b : Nat) : Int))).drew
        simp only [Nat.mul_one, Nat.add_zero] at h1
        rw [← E2.out, List.map_set]
        exact h1
      case measure => simp [intOf]; omega
    · obtain rfl : i = m := by omega
      go_wp2
      go_end0
      exact ⟨rfl, by rw [← HE.out]; exact ho, hgr⟩
theorem or_self : ∀ x : List Nat, orW x x = x
  | [] => rfl
  | a :: r => by show (a ||| a) :: orW r r = _; rw [Nat.or_self, or_self r]
set_option maxRecDepth 100000 in
set_option maxHeartbeats 2000000 in
theorem jadd_self (base g n c : Nat) (x : List Nat) (w : World) (hA : Own w base 215 1 (some ⟨g, 0, none⟩) n c (x.map encW)) (hx : Wide n x) (hn : n ≤ 4000000) :
    Calls Tryz.prog 239 #[.slice (some ⟨g, 0, none⟩) n c, .slice (some ⟨g, 0, none⟩) n c] w fun e w' => e = .returned (.tuple #[]) ∧ Own w' base 215 1 (some ⟨g, 0, none⟩) n c ((orW x x).map encW) ∧ w.grownBy w' (some g) := by
  rw [or_self]
  go_enter Tryz.func239, Tryz.ntmps239
  go_wp2
  go_loopw [4] (fun v wr => ∃ i : Nat, v = .int .i64 i ∧ i ≤ n ∧ Own wr base 215 1 (some ⟨g, 0, none⟩) n c (x.map encW) ∧ w.grownBy wr (some g)) (fun v _ => n - (intOf v).toNat)
  case atStart => exact ⟨0, rfl, by omega, hA, only_refl _ _⟩
  case round =>
    obtain ⟨i, rfl, hi, ho, hgr⟩ := hrel
    by_cases hlt : i < n
    · obtain ⟨a, ha⟩ : ∃ a, x[i]? = some a := ⟨_, List.getElem?_eq_getElem (by have := hx.len; omega)⟩
      have E3 := Lib.hid ha
      have haz := hx.lt a (List.mem_of_getElem? ha)
      have c1 := ho.cell (k := i) (j := 0) (x := encW a) (u := .int .u64 (a : Nat)) (by simp [ha]) rfl
      have f1 := ho.frozen i
      simp only [Nat.mul_one, Nat.add_zero] at c1
      have hor := bits_or_u64_nat a a haz haz
      rw [Nat.or_self] at hor
      clear ha haz
      go_wp2_with fail
      go_region
      go_wp2
      go_roundw
      case rel =>
        refine ⟨i + 1, by go_num, by omega, ?_, only_drew (only_setCell hgr (.inl rfl) _)⟩
        have h1 := (ho.stored (k := i) (j := 0) (x := encW a) (by simp [E3.out]) (by omega) (.int .u64 (a : Int))).drew
        simp only [Nat.mul_one, Nat.add_zero] at h1
        have e : (x.map encW).set i ((encW a).set 0 (.int .u64 (a : Int))) = x.map encW := by
          refine List.ext_getElem? fun j => ?_
          rw [List.getElem?_set]
          split
          · rename_i h; subst h; split
            · rw [List.getElem?_map, E3.out]; rfl
            · rw [List.getElem?_eq_none (by omega)]
          · rfl
        rw [e] at h1
        exact h1
      case measure => simp [intOf]; omega
    · obtain rfl : i = n := by omega
      go_wp2
      go_end0
      exact ⟨rfl, ho, hgr⟩
end Go.Proofs.YtdnkignhenkamaaGreatDoor

/- -/
namespace Go.Proofs.YtdnkignhenkamaaGreatDoor
open Go.RowKit
theorem infoRow : (Tryz.prog.info? 190).map (fun i => (i.zero, i.size, i.bytes)) = some (some (.slice none 0 0), 1, 24) := by kernel_rfl
theorem infoU64 : (Tryz.prog.info? 215).map (fun i => (i.zero, i.size, i.bytes)) = some (some (.int .u64 0), 1, 8) := by kernel_rfl
theorem below_new {w w' : World} (h : w.grownBy w' none) : Below w.heap.size w w' := ⟨h.os, h.tape, h.output, h.size, fun k hk => h.block k hk (fun e => by cases e)⟩
theorem made_zero (n : Nat) : (madeCells (Value.int .u64 0).cells (n * 1)).toList = ((List.replicate n 0).map encW).flatten := by
  rw [Nat.mul_one]
  unfold madeCells
  rw [Array.toList_map, Array.toList_range]
  induction n with
  | zero => rfl
  | succ n ih =>
    rw [List.range_succ, List.map_append, ih, List.replicate_succ', List.map_append, List.flatten_append]
    congr 1
    simp [encW, Value.cells, Nat.mod_one]
theorem own_made {w : World} {base g n : Nat} (h : w.ownsRow base 215 1 (.slice (some ⟨g, 0, none⟩) n n) n (madeCells (Value.int .u64 0).cells (n * 1)).toList) : Own w base 215 1 (some ⟨g, 0, none⟩) n n ((List.replicate n 0).map encW) :=
  ⟨by simp, fun x hx => (encW_ok _ x hx).1, by rw [← made_zero]; exact h⟩
def zeroC (n k : Nat) : List (List Nat) := List.replicate n (List.replicate k 0)
set_option maxRecDepth 100000 in
set_option maxHeartbeats 4000000 in
theorem jnone_any (n : Nat) (w : World) (hn : n ≤ 1000000) :
    Calls Tryz.prog 210 #[.int .i64 n] w fun e w' => ∃ A c rows, e = .returned (.slice A n c) ∧ MtO w' w.heap.size A n c (n / 64 + 1) rows (zeroC n (n / 64 + 1)) ∧ Below w.heap.size w w' := by
  obtain ⟨i0, hi0, hz0, hz1, hz2⟩ := info_parts infoRow
  obtain ⟨j0, hj0, hy0, hy1, hy2⟩ := info_parts infoU64
  obtain ⟨d, hd⟩ : ∃ d, n / 64 = d := ⟨_, rfl⟩
  have q1 : Int.tdiv (n : Int) 64 = (d : Int) := by subst hd; rfl
  have hdz : d ≤ 1000000 := by omega
  rw [hd]
  clear hd
  go_enter Tryz.func210, Tryz.ntmps210
  go_wp2
  go_loopw [3, 4] (fun u v wr => ∃ (i : Nat) (A : Option Addr) (c : Nat) (rows : List Sv), u = .slice A i c ∧ v = .int .i64 i ∧ i ≤ n ∧ MtO wr w.heap.size A i c (d + 1) rows (zeroC i (d + 1)) ∧ Below w.heap.size w wr) (fun _ v _ => n - (intOf v).toNat)
  case atStart => exact ⟨0, none, 0, [], rfl, rfl, by omega, MtO.nil_ _ _ _, Below.refl _ _⟩
  case round =>
    obtain ⟨i, A, c, rows, rfl, rfl, hi, ho, hb⟩ := hrel
    have hsz := hb.size
    have hlen := ho.rlen
    by_cases hlt : i < n
    · go_wp2_with (first
        | (at_make; go_must (refine wpList_make_full _ rfl (.tmp 13) (.tmp 13) 190 rfl w.heap.size 215 j0 (.int .u64 0) 1 Tryz.underlying190 hj0 hy0 hy1 .i64 .i64 _ _ (d + 1) rfl rfl (by omega) (by omega) (by rw [hy2]; omega) (by unfold maxLen; omega) hsz ?_); intro w2 ho2 hg2)
        | (at_builtin; go_must (refine wpList_app rfl (.tmp 10) (.tmp 15) _ rfl w.heap.size 190 i0 _ 1 24 Tryz.underlying187 hi0 hz0 hz1 hz2 rfl (by omega) A i c (rows.map encSl) rfl ((ho.below (below_new hg2)).sl.alloc _) _ 1 1 [encSl (some ⟨wr.heap.size, 0, none⟩, d + 1, d + 1)] rfl rfl (Rd.newAt (by simp) rfl) (encSl_ok [_]) (by unfold maxLen; omega) (by omega) (by have := hg2.size; simp; omega) ?_); intro A3 c3 w3 ho3 hg3 hA3))
      have hfr : ∀ (j : Nat) (q : Sv) (a b : Addr), rows[j]? = some q → q.1 = some a → (some ⟨wr.heap.size, 0, none⟩ : Option Addr) = some b → a.block ≠ b.block := fun j q a b hq ha hb e => by
        injection hb with hb
        subst hb
        obtain ⟨x, hx⟩ : ∃ x, (zeroC i (d + 1))[j]? = some x := ⟨_, List.getElem?_eq_getElem (by have := (List.getElem?_eq_some_iff.1 hq).1; have := ho.len; omega)⟩
        have := ((ho.row j q x hq hx).1.lt a ha).2
        simp only at e
        omega
      have hm := (ho.below (below_new hg2)).snoc (r := (some ⟨wr.heap.size, 0, none⟩, d + 1, d + 1)) (x := List.replicate (d + 1) 0) (own_made ho2) (Wide.zero _) hfr (by rw [List.map_append]; exact ho3) hg3
      have hb3 : Below w.heap.size w w3 := below_app ((hb.trans ((below_new hg2).mono hsz)).alloc (by have := hg2.size; omega) _) hg3 (by have := hg2.size; simp; omega) (fun a ha => (ho.sl.lt a ha).1)
      go_roundw
      case rel => exact ⟨i + 1, A3, c3, _, rfl, by go_num, by omega, by rw [show zeroC (i + 1) (d + 1) = zeroC i (d + 1) ++ [List.replicate (d + 1) 0] from List.replicate_succ']; exact hm, hb3⟩
      case measure => simp [intOf]; omega
    · obtain rfl : i = n := by omega
      go_wp2
      go_ret
      exact ⟨A, c, rows, rfl, ho, hb⟩
theorem zero_at {n k i : Nat} (hi : i < n) : (zeroC n k).getD i [] = List.replicate k 0 := by unfold zeroC; rw [List.getD_eq_getElem?_getD, List.getElem?_replicate, if_pos hi]; rfl
theorem zero_bits (n k : Nat) : BitsM n (zeroC n k) noneM := fun i j hi _ => by rw [zero_at hi, hasW_zero]; rfl
theorem BitsM.step {n i : Nat} {C : List (List Nat)} {m m' : Mtx} {x : List Nat} (h : BitsM n C m) (hi : i < C.length) (h1 : ∀ j, j < n → hasW x j = m' i j) (h2 : ∀ y j, y < n → j < n → y ≠ i → m' y j = m y j) : BitsM n (C.set i x) m' := fun y j hy hj => by
  rw [getD_set hi]
  by_cases e : i = y
  · rw [if_pos e]; subst e; exact h1 j hj
  · rw [if_neg e, h y j hy hj, h2 y j hy hj (fun k => e k.symm)]
theorem BitsM.congr {n : Nat} {C : List (List Nat)} {m m' : Mtx} (h : BitsM n C m) (e : ∀ i j, i < n → j < n → m' i j = m i j) : BitsM n C m' := fun i j hi hj => by rw [h i j hi hj, e i j hi hj]
theorem BitsM.row {n i : Nat} {C : List (List Nat)} {m : Mtx} {x : List Nat} (h : BitsM n C m) (hx : C.getD i [] = x) (hi : i < n) : ∀ j, j < n → hasW x j = m i j := fun j hj => by rw [← hx]; exact h i j hi hj
def MtEnd (w : World) (n : Nat) (m : Mtx) (e : Ending) (w' : World) : Prop := ∃ A c rows C, e = .returned (.slice A n c) ∧ MtO w' w.heap.size A n c (n / 64 + 1) rows C ∧ BitsM n C m ∧ Below w.heap.size w w'
set_option maxRecDepth 100000 in
set_option maxHeartbeats 4000000 in
theorem jown_any (n : Nat) (w : World) (hn : n ≤ 1000000) : Calls Tryz.prog 213 #[.int .i64 n] w (MtEnd w n ownM) := by
  have HN := Lib.hid (jnone_any n w hn)
  obtain ⟨k, Hk⟩ : ∃ k, Hid (n / 64 + 1 = k) := ⟨_, Lib.hid rfl⟩
  have hk0 : 0 < k := by have := Hk.out; omega
  rw [Hk.out] at HN
  unfold MtEnd
  rw [Hk.out]
  go_enter Tryz.func213, Tryz.ntmps213
  go_wp2_with fail
  refine HN.out.mono ?_
  rintro e w1 ⟨A, c, rows, rfl, ho1, hb1⟩
  have HZ := Lib.hid (zero_bits n k)
  generalize zeroC n k = C0 at ho1 HZ
  clear HN
  go_wp2_with fail
  go_loopw [4] (fun v wr => ∃ (i : Nat) (C : List (List Nat)), v = .int .i64 i ∧ i ≤ n ∧ MtO wr w.heap.size A n c k rows C ∧ Hid (BitsM n C fun x j => decide (x < i) && decide (x = j)) ∧ Below w.heap.size w wr) (fun v _ => n - (intOf v).toNat)
  case atStart => exact ⟨0, C0, rfl, by omega, ho1, Lib.hid (HZ.out.congr fun i j _ _ => by simp [noneM]), hb1⟩
  case round =>
    obtain ⟨i, C, rfl, hi, ho, HB, hb⟩ := hrel
    have hsz := hb.size
    by_cases hlt : i < n
    · obtain ⟨bk, g, d, x, rfl, hr, hc, hx, hx2, hox, hwx⟩ := ho.at_ hlt hk0
      have HS := Lib.hid (jset_any w.heap.size g k d i x wr hox hwx (by have := Hk.out; omega) (by omega))
      have HBx := Lib.hid (HB.out.row hx2 hlt)
      have HC := Lib.hid (show i < C.length by rw [ho.len]; exact hlt)
      have hgl := (hox.lt _ rfl).1
      clear hx hx2
      go_wp2_with fail
      refine HS.out.mono ?_
      rintro e w2 ⟨rfl, ho2, hg2⟩
      have hm := ho.wrote hr hg2 ho2 (hwx.set_ i)
      have hb2 : Below w.heap.size w w2 := hb.trans (below_only hg2 hsz hgl)
      go_wp2
      go_roundw
      case rel =>
        refine ⟨i + 1, _, by go_num, by omega, hm, Lib.hid (HB.out.step HC.out (fun j hj => ?_) (fun y j _ _ hy => ?_)), hb2⟩
        · rw [hasW_set (by rw [hwx.len]; have := Hk.out; omega), HBx.out j hj, decide_eq_true (by omega : i < i + 1), decide_eq_false (by omega : ¬ i < i)]
          simp only [Bool.false_and, Bool.false_or, Bool.true_and]
          exact decide_eq_decide.2 ⟨Eq.symm, Eq.symm⟩
        · congr 1
          exact decide_eq_decide.2 (by omega)
      case measure => simp [intOf]; omega
    · obtain rfl : i = n := by omega
      go_wp2
      go_ret
      exact ⟨A, c, rows, C, rfl, ho, HB.out.congr fun x j hx _ => by unfold ownM; rw [decide_eq_true hx, Bool.true_and], hb⟩
end Go.Proofs.YtdnkignhenkamaaGreatDoor

/- -/
namespace Go.Proofs.YtdnkignhenkamaaGreatDoor
open Go.RowKit
theorem Rd.off {w : World} {A : Option Addr} {l : List Nat} {k g : Nat} (h : Rd w 1 A (l.map encW)) (hk : Wide k l) (h0 : 0 < k) (hg : w.heap.size ≤ g) : ∀ a, A = some a → a.block ≠ g := fun a ha => by
  obtain ⟨b, off, e, hb⟩ := h.lt (fun x hx => by obtain ⟨y, _, rfl⟩ := List.mem_map.1 hx; simp [encW]) (fun e => by
    have := congrArg List.length e
    rw [List.length_map, hk.len] at this
    simp at this; omega)
  rw [e] at ha
  injection ha with ha
  subst ha
  simp only
  omega
theorem MtO.cell {w : World} {base n c k i bk g d : Nat} {rows : List Sv} {C : List (List Nat)} (h : MtO w base (some ⟨bk, 0, none⟩) n c k rows C) (hr : rows[i]? = some (some ⟨g, 0, none⟩, k, d)) : w.cell? ⟨bk, i, none⟩ = some (.slice (some ⟨g, 0, none⟩) k d) := by
  have h0 := h.sl.cell (k := i) (j := 0) (x := encSl (some ⟨g, 0, none⟩, k, d)) (u := .slice (some ⟨g, 0, none⟩) k d) (by simp [hr]) rfl
  simpa using h0
theorem drew_grown {w w' : World} {r : Option Nat} (h : w.drew.grownBy w' r) : w.grownBy w' r := ⟨h.os, h.tape, h.output, h.size, h.block⟩
set_option maxRecDepth 100000 in
set_option maxHeartbeats 4000000 in
theorem jboth_any (A1 A2 : Option Addr) (n c1 c2 : Nat) (CA CB : List (List Nat)) (a b : Mtx) (w : World) (hA : MtR w (A1, n, c1) n (n / 64 + 1) CA) (ha : BitsM n CA a) (hB : MtR w (A2, n, c2) n (n / 64 + 1) CB) (hb : BitsM n CB b) (hn : n ≤ 1000000) :
    Calls Tryz.prog 215 #[.slice A1 n c1, .slice A2 n c2] w (MtEnd w n (bothM a b)) := by
  have HN := Lib.hid (jnone_any n w hn)
  obtain ⟨k, Hk⟩ : ∃ k, Hid (n / 64 + 1 = k) := ⟨_, Lib.hid rfl⟩
  have hk0 : 0 < k := by have := Hk.out; omega
  have hkz : k ≤ 4000000 := by have := Hk.out; omega
  rw [Hk.out] at HN hA hB
  unfold MtEnd
  rw [Hk.out]
  have Ha := Lib.hid ha
  have Hb := Lib.hid hb
  clear ha hb
  go_enter Tryz.func215, Tryz.ntmps215
  go_wp2_with fail
  refine HN.out.mono ?_
  rintro e w1 ⟨A, c, rows, rfl, ho1, hb1⟩
  have HZ := Lib.hid (zero_bits n k)
  generalize zeroC n k = C0 at ho1 HZ
  clear HN
  go_wp2_with fail
  go_loopw [6] (fun v wr => ∃ (i : Nat) (C : List (List Nat)), v = .int .i64 i ∧ i ≤ n ∧ MtO wr w.heap.size A n c k rows C ∧ Hid (BitsM n C fun x j => decide (x < i) && (a x j || b x j)) ∧ Below w.heap.size w wr) (fun v _ => n - (intOf v).toNat)
  case atStart => exact ⟨0, C0, rfl, by omega, ho1, Lib.hid (HZ.out.congr fun i j _ _ => by simp [noneM]), hb1⟩
  case round =>
    obtain ⟨i, C, rfl, hi, ho, HB, hbw⟩ := hrel
    have hsz := hbw.size
    by_cases hlt : i < n
    · obtain ⟨bk, g, d, x, rfl, hr, hc, hx, hx2, hox, hwx⟩ := ho.at_ hlt hk0
      obtain ⟨b1, o1, B1, d1, x1, e1, k1, -, hx1, hr1, hw1⟩ := hA.at_ hlt
      obtain ⟨b2, o2, B2, d2, x2, e2, k2, -, hx2', hr2, hw2⟩ := hB.at_ hlt
      simp only at e1 e2
      subst e1
      subst e2
      have hgl := (hox.lt _ rfl).1
      have hga := Rd.off hr1 hw1 hk0 hgl
      have hgb := Rd.off hr2 hw2 hk0 hgl
      have k20 := k2
      replace k1 := cell_keep k1 hbw
      have hr1' := hr1.below hbw
      have HA1 := Lib.hid (jadd_any w.heap.size g k d k d1 B1 x x1 wr.drew hox.drew hwx hr1'.drew hw1 hga rfl hkz)
      have HBx := Lib.hid (HB.out.row hx2 hlt)
      have HBa := Lib.hid (Ha.out.row hx1 hlt)
      have HBb := Lib.hid (Hb.out.row hx2' hlt)
      have HC := Lib.hid (show i < C.length by rw [ho.len]; exact hlt)
      clear hx hx2 hx1 hx2' k2
      go_wp2_with fail
      refine wp_region_noPanic ?_
      go_region_law (go_simp; go_at_call 239; refine HA1.out.mono ?_; rintro e wz ⟨rfl, ho2, hg2⟩)
      all_goals
        refine NoPanic.normal ?_
        have hg2' := drew_grown hg2
        have hm1 := ho.wrote hr hg2' ho2 (hwx.or hw1)
        have hb2 : Below w.heap.size w wz := hbw.trans (below_only hg2' hsz hgl)
        have hsz2 := hb2.size
        have hc2 := hm1.cell hr
        have k2' := cell_keep k20 hb2
        have HA2 := Lib.hid (jadd_any w.heap.size g k d k d2 B2 (orW x x1) x2 wz.drew ho2.drew (hwx.or hw1) (hr2.below hb2).drew hw2 hgb rfl hkz)
        clear HA1 hg2 hc k1 k20 hr1
        go_wp2_with fail
        refine wp_region_noPanic ?_
        go_region_law (go_simp; go_at_call 239; refine HA2.out.mono ?_; rintro e wy ⟨rfl, ho3, hg3⟩)
        all_goals
          refine NoPanic.normal ?_
          have hg3' := drew_grown hg3
          have hm2 := hm1.wrote hr hg3' ho3 ((hwx.or hw1).or hw2)
          rw [List.set_set] at hm2
          have hb3 : Below w.heap.size w wy := hb2.trans (below_only hg3' hsz2 hgl)
          go_wp2
          go_roundw
          case rel =>
            refine ⟨i + 1, _, by go_num, by omega, hm2, Lib.hid (HB.out.step HC.out (fun j hj => ?_) (fun y j _ _ hy => ?_)), hb3⟩
            · rw [hasW_or (by rw [(hwx.or hw1).len, hw2.len]), hasW_or (by rw [hwx.len, hw1.len]), HBx.out j hj, HBa.out j hj, HBb.out j hj, decide_eq_true (by omega : i < i + 1), decide_eq_false (by omega : ¬ i < i)]
              simp
            · congr 1
              exact decide_eq_decide.2 (by omega)
          case measure => simp [intOf]; omega
    · obtain rfl : i = n := by omega
      go_wp2
      go_ret
      exact ⟨A, c, rows, C, rfl, ho, HB.out.congr fun x j hx _ => by unfold bothM; rw [decide_eq_true hx, Bool.true_and], hbw⟩
end Go.Proofs.YtdnkignhenkamaaGreatDoor

/- -/
namespace Go.Proofs.YtdnkignhenkamaaGreatDoor
open Go.RowKit
def behTo (n i z : Nat) (a b : Mtx) : Mtx := fun x j => if x = i then (List.range z).any (fun k => a i k && b k j) else decide (x < i) && behindM n a b x j
theorem behTo_first (n i : Nat) (a b : Mtx) (x j : Nat) : behTo n i 0 a b x j = (decide (x < i) && behindM n a b x j) := by
  unfold behTo
  by_cases e : x = i
  · rw [if_pos e, decide_eq_false (by omega)]; rfl
  · rw [if_neg e]
theorem behTo_last (n i : Nat) (a b : Mtx) (x j : Nat) : (decide (x < i + 1) && behindM n a b x j) = behTo n i n a b x j := by
  unfold behTo
  by_cases e : x = i
  · rw [if_pos e, decide_eq_true (by omega), Bool.true_and]; subst e; rfl
  · rw [if_neg e]
    congr 1
    exact decide_eq_decide.2 (by omega)
theorem behTo_here (n i z : Nat) (a b : Mtx) (j : Nat) : behTo n i (z + 1) a b i j = (behTo n i z a b i j || (a i z && b z j)) := by
  unfold behTo
  rw [if_pos rfl, if_pos rfl, List.range_succ, List.any_append]; simp
theorem behTo_there {n i z : Nat} {a b : Mtx} {x j : Nat} (h : x ≠ i) : behTo n i (z + 1) a b x j = behTo n i z a b x j := by
  unfold behTo
  rw [if_neg h, if_neg h]
set_option maxRecDepth 100000 in
set_option maxHeartbeats 4000000 in
theorem jbehind_any (A1 A2 : Option Addr) (n c1 c2 : Nat) (CA CB : List (List Nat)) (a b : Mtx) (w : World) (hA : MtR w (A1, n, c1) n (n / 64 + 1) CA) (ha : BitsM n CA a) (hB : MtR w (A2, n, c2) n (n / 64 + 1) CB) (hb : BitsM n CB b) (hn : n ≤ 1000000) :
    Calls Tryz.prog 214 #[.slice A1 n c1, .slice A2 n c2] w (MtEnd w n (behindM n a b)) := by
  have HN := Lib.hid (jnone_any n w hn)
  obtain ⟨k, Hk⟩ : ∃ k, Hid (n / 64 + 1 = k) := ⟨_, Lib.hid rfl⟩
  have hk0 : 0 < k := by have := Hk.out; omega
  have hkz : k ≤ 4000000 := by have := Hk.out; omega
  rw [Hk.out] at HN hA hB
  unfold MtEnd
  rw [Hk.out]
  have Ha := Lib.hid ha
  have Hb := Lib.hid hb
  clear ha hb
  go_enter Tryz.func214, Tryz.ntmps214
  go_wp2_with fail
  refine HN.out.mono ?_
  rintro e w1 ⟨A, c, rows, rfl, ho1, hb1⟩
  have HZ := Lib.hid (zero_bits n k)
  generalize zeroC n k = C0 at ho1 HZ
  clear HN
  go_wp2_with fail
  go_loopw [7, 8] (fun v _ wr => ∃ (i : Nat) (C : List (List Nat)), v = .int .i64 i ∧ i ≤ n ∧ MtO wr w.heap.size A n c k rows C ∧ Hid (BitsM n C fun x j => decide (x < i) && behindM n a b x j) ∧ Below w.heap.size w wr) (fun v _ _ => n - (intOf v).toNat)
  case atStart => exact ⟨0, C0, rfl, by omega, ho1, Lib.hid (HZ.out.congr fun i j _ _ => by simp [noneM]), hb1⟩
  case round =>
    obtain ⟨i, C, rfl, hi, ho, HB, hbw⟩ := hrel
    by_cases hlt : i < n
    · obtain ⟨b1, o1, B1, d1, x1, e1, k10, -, hx1, hr1, hw1⟩ := hA.at_ hlt
      simp only at e1
      subst e1
      have HBa := Lib.hid (Ha.out.row hx1 hlt)
      clear hx1
      go_wp2_with fail
      go_loopw [8] (fun v wq => ∃ (z : Nat) (C : List (List Nat)), v = .int .i64 z ∧ z ≤ n ∧ MtO wq w.heap.size A n c k rows C ∧ Hid (BitsM n C (behTo n i z a b)) ∧ Below w.heap.size w wq) (fun v _ => n - (intOf v).toNat)
      case atStart => exact ⟨0, C, rfl, by omega, ho, Lib.hid (HB.out.congr fun x j _ _ => behTo_first n i a b x j), hbw⟩
      case round =>
        clear ho HB hbw
        obtain ⟨z, C, rfl, hz, ho, HB, hbw⟩ := hrel
        have hsz := hbw.size
        by_cases hzt : z < n
        · have k1 := cell_keep k10 hbw
          obtain ⟨q, Hq⟩ : ∃ q, Hid (a i z = q) := ⟨_, Lib.hid rfl⟩
          have HH := Lib.hid (jhas_any B1 k d1 z x1 wr (hr1.below hbw) hw1 (by have := Hk.out; omega) (by omega))
          rw [HBa.out z hzt, Hq.out] at HH
          cases q with
          | false =>
            go_wp2_with fail
            refine HH.out.mono ?_
            rintro e w2 ⟨rfl, rfl⟩
            go_wp2
            go_roundw
            case rel => exact ⟨z + 1, C, by go_num, by omega, ho, Lib.hid (HB.out.congr fun x j _ _ => by
              by_cases e : x = i
              · subst e; rw [behTo_here, Hq.out]; simp
              · exact behTo_there e), hbw⟩
            case measure => simp [intOf]; omega
          | true =>
            obtain ⟨bk, g, d, x, rfl, hr, hc, hx, hx2, hox, hwx⟩ := ho.at_ hlt hk0
            obtain ⟨b2, o2, B2, d2, x2, e2, k2, -, hx2', hr2, hw2⟩ := hB.at_ hzt
            simp only at e2
            subst e2
            have hgl := (hox.lt _ rfl).1
            have hgb := Rd.off hr2 hw2 hk0 hgl
            replace k2 := cell_keep k2 hbw
            have HA1 := Lib.hid (jadd_any w.heap.size g k d k d2 B2 x x2 wr.drew hox.drew hwx (hr2.below hbw).drew hw2 hgb rfl hkz)
            have HBx := Lib.hid (HB.out.row hx2 hlt)
            have HBb := Lib.hid (Hb.out.row hx2' hzt)
            have HC := Lib.hid (show i < C.length by rw [ho.len]; exact hlt)
            clear hx hx2 hx2'
            go_wp2_with fail
            refine HH.out.mono ?_
            rintro e w2 ⟨rfl, rfl⟩
            go_wp2_with fail
            refine wp_region_noPanic ?_
            go_region_law (go_simp; go_at_call 239; refine HA1.out.mono ?_; rintro e wz ⟨rfl, ho2, hg2⟩)
            all_goals
              refine NoPanic.normal ?_
              have hg2' := drew_grown hg2
              have hm1 := ho.wrote hr hg2' ho2 (hwx.or hw2)
              have hb2 : Below w.heap.size w wz := hbw.trans (below_only hg2' hsz hgl)
              go_wp2
              go_roundw
              case rel =>
                refine ⟨z + 1, _, by go_num, by omega, hm1, Lib.hid (HB.out.step HC.out (fun j hj => ?_) (fun y j _ _ hy => behTo_there hy)), hb2⟩
                rw [hasW_or (by rw [hwx.len, hw2.len]), HBx.out j hj, HBb.out j hj, behTo_here, Hq.out, Bool.true_and]
              case measure => simp [intOf]; omega
        · obtain rfl : z = n := by omega
          go_wp2
          go_roundw
          case rel => exact ⟨i + 1, C, by go_num, by omega, ho, Lib.hid (HB.out.congr fun x j _ _ => behTo_last z i a b x j), hbw⟩
          case measure => simp [intOf]; omega
    · obtain rfl : i = n := by omega
      go_wp2
      go_ret
      exact ⟨A, c, rows, C, rfl, ho, HB.out.congr fun x j hx _ => by rw [decide_eq_true hx, Bool.true_and], hbw⟩
end Go.Proofs.YtdnkignhenkamaaGreatDoor

/- -/
namespace Go.Proofs.YtdnkignhenkamaaGreatDoor
open Go.RowKit
def moreK (n : Nat) (a : Mtx) (k : Nat) : Mtx := (List.range k).foldl (fun m k => warRow n k m) (bothM a ownM)
def moreI (n : Nat) (a : Mtx) (k i : Nat) : Mtx := (List.range i).foldl (fun m i => warS k i m) (moreK n a k)
theorem moreI_last (n : Nat) (a : Mtx) (k : Nat) : moreI n a k n = moreK n a (k + 1) := by
  unfold moreI
  conv => rhs; unfold moreK
  rw [List.range_succ, List.foldl_append]; rfl
theorem moreI_next (n : Nat) (a : Mtx) (k i : Nat) : moreI n a k (i + 1) = warS k i (moreI n a k i) := by
  unfold moreI
  rw [List.range_succ, List.foldl_append]; rfl
set_option maxRecDepth 100000 in
set_option maxHeartbeats 4000000 in
theorem jmore_any (A1 : Option Addr) (n c1 : Nat) (CA : List (List Nat)) (a : Mtx) (w : World) (hA : MtR w (A1, n, c1) n (n / 64 + 1) CA) (ha : BitsM n CA a) (hn : n ≤ 1000000) :
    Calls Tryz.prog 216 #[.slice A1 n c1] w (MtEnd w n (moreM n a)) := by
  have HO := Lib.hid (jown_any n w hn)
  have HBo := Lib.hid (fun A2 c2 CB W (h1 : MtR W (A1, n, c1) n (n / 64 + 1) CA) (h2 : MtR W (A2, n, c2) n (n / 64 + 1) CB) (hb : BitsM n CB ownM) => jboth_any A1 A2 n c1 c2 CA CB a ownM W h1 ha h2 hb hn)
  clear ha
  unfold MtEnd at HO HBo
  obtain ⟨k, Hk⟩ : ∃ k, Hid (n / 64 + 1 = k) := ⟨_, Lib.hid rfl⟩
  have hk0 : 0 < k := by have := Hk.out; omega
  have hkz : k ≤ 4000000 := by have := Hk.out; omega
  simp only [Hk.out] at HO HBo hA
  unfold MtEnd
  rw [Hk.out]
  go_enter Tryz.func216, Tryz.ntmps216
  go_wp2_with fail
  refine HO.out.mono ?_
  rintro e w1 ⟨A2, c2, rows2, C2, rfl, ho1, hb1, hbw1⟩
  have hMB := ho1.rd
  have HB2 := Lib.hid (HBo.out A2 c2 C2 w1 (hA.below hbw1) hMB hb1)
  clear HO HBo ho1 hMB hb1
  go_wp2_with fail
  refine HB2.out.mono ?_
  rintro e w2 ⟨A, c, rows, C0, rfl, ho2, hb2, hbw2⟩
  have hbw20 := below_two hbw1 hbw2
  have ho20 := ho2.more hbw1.size
  have HZ := Lib.hid hb2
  clear HB2 hb2 ho2 hA
  go_wp2_with fail
  go_loopw [5, 6] (fun v _ wr => ∃ (z : Nat) (C : List (List Nat)), v = .int .i64 z ∧ z ≤ n ∧ MtO wr w.heap.size A n c k rows C ∧ Hid (BitsM n C (moreK n a z)) ∧ Below w.heap.size w wr) (fun v _ _ => n - (intOf v).toNat)
  case atStart => exact ⟨0, C0, rfl, by omega, ho20, HZ, hbw20⟩
  case round =>
    clear HZ ho20
    obtain ⟨z, C, rfl, hz, ho, HB, hbw⟩ := hrel
    by_cases hzt : z < n
    · go_wp2_with fail
      go_loopw [6] (fun v wq => ∃ (i : Nat) (C : List (List Nat)), v = .int .i64 i ∧ i ≤ n ∧ MtO wq w.heap.size A n c k rows C ∧ Hid (BitsM n C (moreI n a z i)) ∧ Below w.heap.size w wq) (fun v _ => n - (intOf v).toNat)
      case atStart => exact ⟨0, C, rfl, by omega, ho, HB, hbw⟩
      case round =>
        clear ho HB hbw
        obtain ⟨i, C, rfl, hi, ho, HB, hbw⟩ := hrel
        have hsz := hbw.size
        by_cases hlt : i < n
        · obtain ⟨bk, g, d, x, rfl, hr, hc, hx, hx2, hox, hwx⟩ := ho.at_ hlt hk0
          have HBx := Lib.hid (HB.out.row hx2 hlt)
          obtain ⟨m, Hm⟩ : ∃ m, Hid (moreI n a z i = m) := ⟨_, Lib.hid rfl⟩
          rw [Hm.out] at HB HBx
          have HNx := Lib.hid (show moreI n a z (i + 1) = warS z i m by rw [moreI_next, Hm.out])
          obtain ⟨q, Hq⟩ : ∃ q, Hid (m i z = q) := ⟨_, Lib.hid rfl⟩
          have HH := Lib.hid (jhas_any (some ⟨g, 0, none⟩) k d z x wr (hox.rd (by omega)) hwx (by have := Hk.out; omega) (by omega))
          rw [HBx.out z hzt, Hq.out] at HH
          cases q with
          | false =>
            clear hx hx2
            go_wp2_with fail
            refine HH.out.mono ?_
            rintro e w3 ⟨rfl, rfl⟩
            go_wp2
            go_roundw
            case rel => exact ⟨i + 1, C, by go_num, by omega, ho, Lib.hid (HB.out.congr fun x j _ _ => by rw [HNx.out, warS_eq, Hq.out]; simp), hbw⟩
            case measure => simp [intOf]; omega
          | true =>
            have hgl := (hox.lt _ rfl).1
            have HC := Lib.hid (show i < C.length by rw [ho.len]; exact hlt)
            obtain ⟨bk', g2, d2, y, eb, hr2, hc2, hy, hy2, hoy, hwy⟩ := ho.at_ hzt hk0
            injection eb with eb
            injection eb with eb _ _
            subst eb
            have HBy := Lib.hid (HB.out.row hy2 hzt)
            have HA1 : Hid (Calls Tryz.prog 239 #[.slice (some ⟨g, 0, none⟩) k d, .slice (some ⟨g2, 0, none⟩) k d2] wr.drew fun e w' => e = .returned (.tuple #[]) ∧ Own w' w.heap.size 215 1 (some ⟨g, 0, none⟩) k d ((orW x y).map encW) ∧ wr.drew.grownBy w' (some g)) := by
              by_cases e : i = z
              · subst e
                rw [hr] at hr2
                injection hr2 with hr2
                injection hr2 with h1 h2
                injection h1 with h1
                injection h1 with h1 _ _
                injection h2 with _ h2
                subst h1
                subst h2
                rw [hx] at hy
                injection hy with hy
                subst hy
                exact Lib.hid (jadd_self w.heap.size g k d x wr.drew hox.drew hwx hkz)
              · refine Lib.hid (jadd_any w.heap.size g k d k d2 (some ⟨g2, 0, none⟩) x y wr.drew hox.drew hwx (hoy.rd (by omega)).drew hwy (fun a ha e2 => e (ho.apart i z _ _ ⟨g, 0, none⟩ a hr hr2 rfl ha e2.symm)) rfl hkz)
            clear hx hx2 hy hy2 hoy
            go_wp2_with fail
            refine HH.out.mono ?_
            rintro e w3 ⟨rfl, rfl⟩
            go_wp2_with fail
            refine wp_region_noPanic ?_
            go_region_law (go_simp; go_at_call 239; refine HA1.out.mono ?_; rintro e wz ⟨rfl, ho2, hg2⟩)
            all_goals
              refine NoPanic.normal ?_
              have hg2' := drew_grown hg2
              have hm1 := ho.wrote hr hg2' ho2 (hwx.or hwy)
              have hb2 : Below w.heap.size w wz := hbw.trans (below_only hg2' hsz hgl)
              go_wp2
              go_roundw
              case rel =>
                refine ⟨i + 1, _, by go_num, by omega, hm1, Lib.hid (HB.out.step HC.out (fun j hj => ?_) (fun y j _ _ hy => ?_)), hb2⟩
                · rw [hasW_or (by rw [hwx.len, hwy.len]), HBx.out j hj, HBy.out j hj, HNx.out, warS_eq, Hq.out, decide_eq_true rfl]; simp
                · rw [HNx.out, warS_eq, decide_eq_false hy]; simp
              case measure => simp [intOf]; omega
        · obtain rfl : i = n := by omega
          rw [moreI_last] at HB
          go_wp2
          go_roundw
          case rel => exact ⟨z + 1, C, by go_num, by omega, ho, HB, hbw⟩
          case measure => simp [intOf]; omega
    · obtain rfl : z = n := by omega
      go_wp2
      go_ret
      exact ⟨A, c, rows, C, rfl, ho, HB.out, hbw⟩
end Go.Proofs.YtdnkignhenkamaaGreatDoor

